/- UnmapKeys of the program; MapKeys and UnmapKeys of the reference. -/
import Derived.Test.YtllngpnhhpnjoaaDoorKeyN
namespace Go.Proofs.YtllngpnhhpnjoaaDoor
set_option linter.unusedVariables false
set_option maxRecDepth 100000
open Go.RowKit
theorem enters_UnmapKeys1 : ∀ (args : Array Value) (w : World), (callFunc 83 args).run Tryd.prog w = .ok (.enter 83 args) w := by
  intro args w
  have h1 : (Tryd.f83.name == "runtime.NumGoroutine") = false := by kernel_rfl
  have h2 : Tryd.f83.body.isNone = false := by kernel_rfl
  have h1' : ¬ Tryd.f83.name = "runtime.NumGoroutine" := by simpa using h1
  have h2' : ¬ Tryd.f83.body = none := by intro e; rw [e] at h2; cases h2
  simp [callFunc, Tryd.func83, go_sem, h1', h2']
set_option maxHeartbeats 1000000 in
theorem UnmapKeys_impl (w0 : World) (v : Value) (t : V) (h : Rep w0 v t) (hsz : t.sz ≤ 1048576) (nv : Value) (l : List ByteArray) (hl : RepSs w0 nv l) (hlz : szl l ≤ 1048576) (w : World) (hw : Below w0.heap.size w0 w) (hE : Env w0) :
    Calls Tryd.prog 35 #[v, nv] w (VBRet w ((kyR (byUn l) l t).getD t) (kyR (byUn l) l t).isSome) := by
  have KY := Lib.hid (fun (c : Nat) (W : World) (hW : Below w.heap.size w W) (hc : NameAt W c nv) => keyed_any W (Env.keep (Env.keep hE hw) hW) v t ((h.keep hw).keep hW) hsz nv l ((hl.keep hw).keep hW) hlz (.func (.func 83) #[] #[.pointer (some ⟨c, 0, none⟩)]) (byUn l) W (Below.refl _ _)
    (fun hok W2 hW2 => turnKeys_any W 83 _ enters_UnmapKeys1 (byUn l) (fun t sl w hwf hk _ hr hw2 => UnmapKeys1_any W nv l ((hl.keep hw).keep hW) c hc t sl w hwf hk hr hw2) _ v t 12 (Nat.lt_succ_self _) (by simp only [okT, Bool.and_eq_true] at hok; exact hok.1) ((h.keep hw).keep hW) hsz W2 hW2)
    (fun hok hn u hu => un_sz l hn hok hu))
  have HP := Lib.hid (show ∀ W (hW : Below w.heap.size w W) e w', VBRet W ((kyR (byUn l) l t).getD t) (kyR (byUn l) l t).isSome e w' → ∃ sl, e = .returned (.tuple #[((kyR (byUn l) l t).getD t).agg sl, .bool (kyR (byUn l) l t).isSome]) ∧ ((kyR (byUn l) l t).getD t).wf ∧ OwnS w' (fun x => W.heap.size ≤ x) sl ((kyR (byUn l) l t).getD t).kids ∧ Below W.heap.size W w' from fun _ _ _ _ h => h)
  generalize (kyR (byUn l) l t).getD t = r at *
  generalize (kyR (byUn l) l t).isSome = b at *
  obtain ⟨sl, rfl, -, hr⟩ := h
  obtain ⟨sa, sc, rfl⟩ := hr.slice
  obtain ⟨na, nn, nc, rfl⟩ : ∃ a n c, nv = .slice a n c := by obtain ⟨a, _, _, c, h, _⟩ := hl; exact ⟨a, _, c, h⟩
  clear hr hl hE hsz hlz
  unfold V.agg at KY ⊢
  generalize t.k = k at *
  generalize t.n = n at *
  generalize t.e = e at *
  generalize t.s = s at *
  generalize t.kids.length = len at *
  go_enter Tryd.func35, Tryd.ntmps35
  go_wp2_with fail
  refine (KY.out (w.heap.size + 1) _ ((by (repeat' (first | with_reducible exact Below.refl _ _ | with_reducible refine below_alloc ?_ _ ?_ | with_reducible refine Below.setCell ?_ ?_ _ | with_reducible refine Below.drew ?_ | with_reducible refine below_drewN ?_ _ | with_reducible refine below_step ?_ (by assumption) ?_ | with_reducible refine below_mark ?_ (by assumption) ?_)); all_goals (first | omega | (simp; done) | (simp; omega)))) ?_).mono ?_
  · have := heap_alloc_new (w.alloc (.cells #[.int .i64 k, .int .i64 n, .int .i64 e, .string s, .slice sa len sc] 30)) (.cells #[.slice na nn nc] 40)
    unfold NameAt
    rw [heap_alloc_old _ _ (by simp)]
    rwa [show (w.alloc (.cells #[.int .i64 k, .int .i64 n, .int .i64 e, .string s, .slice sa len sc] 30)).heap.size = w.heap.size + 1 by simp] at this
  · rintro x w9 hret
    obtain ⟨s9, rfl, wf9, ho9, hb9⟩ := HP.out _ ((by (repeat' (first | with_reducible exact Below.refl _ _ | with_reducible refine below_alloc ?_ _ ?_ | with_reducible refine Below.setCell ?_ ?_ _ | with_reducible refine Below.drew ?_ | with_reducible refine below_drewN ?_ _ | with_reducible refine below_step ?_ (by assumption) ?_ | with_reducible refine below_mark ?_ (by assumption) ?_)); all_goals (first | omega | (simp; done) | (simp; omega)))) _ _ hret
    obtain ⟨oa, on, oc, rfl⟩ : ∃ sa sn sc, s9 = .slice sa sn sc := by obtain ⟨p, q, e⟩ := ho9.slice; exact ⟨p, _, q, e⟩
    clear hret
    unfold V.agg
    have hz9 := hb9.size
    simp at hz9
    obtain ⟨hc, hf⟩ := bcell hb9
    have HO := Lib.hid (show OwnS w9 (fun x => w.heap.size + 1 + 1 + 1 ≤ x) (.slice oa on oc) r.kids from ho9.mono (fun x hx => Nat.le_trans (by first | omega | (simp; done) | (simp; omega)) hx)); clear ho9
    go_wp2_with fail
    refine bodyPost_ret (v := .tuple #[.agg #[.int .i64 r.k, .int .i64 r.n, .int .i64 r.e, .string r.s, .slice oa on oc], .bool b]) (by simp [results, Tryd.results35, go_sem, hc, hz9]) rfl ⟨_, rfl, wf9, ?_, (by (repeat' (first | with_reducible exact Below.refl _ _ | with_reducible refine below_alloc ?_ _ ?_ | with_reducible refine Below.setCell ?_ ?_ _ | with_reducible refine Below.drew ?_ | with_reducible refine below_drewN ?_ _ | with_reducible refine below_step ?_ (by assumption) ?_ | with_reducible refine below_mark ?_ (by assumption) ?_)); all_goals (first | omega | (simp; done) | (simp; omega)))⟩
    refine OwnS.mono (F := fun x => w.heap.size + 1 + 1 + 1 ≤ x) ?_ (fun x hx => by omega)
    repeat refine OwnS.set ?_ _ _ (by first | omega | (simp; done) | (simp; omega))
    exact HO.out
set_option maxHeartbeats 2000000 in
theorem MapKeys_spec (w0 : World) (v : Value) (t : V) (h : Rep w0 v t) (hsz : t.sz ≤ 1048576) (nv : Value) (l : List ByteArray) (hl : RepSs w0 nv l) (hlz : szl l ≤ 1048576) (w : World) (hw : Below w0.heap.size w0 w) :
    Calls Tryd.prog 29 #[v, nv] w (VBRet w ((kyR (byMap l) l t).getD t) (kyR (byMap l) l t).isSome) := by
  have VO := Lib.hid (fun (W : World) (hW : Below w.heap.size w W) => ValueOk_spec w0 v t h hsz W (hw.trans (hW.mono hw.size)))
  have NO := Lib.hid (fun (W : World) (hW : Below w.heap.size w W) => NamesOk_spec w0 nv l hl hlz W (hw.trans (hW.mono hw.size)))
  have OW := Lib.hid (fun (W : World) (hW : Below w.heap.size w W) => copy_any w0 v t h hsz W (hw.trans (hW.mono hw.size)))
  have WH := Lib.hid (fun (W : World) (hW : Below w.heap.size w W) => l11Whole_any w0 _ v t (Nat.lt_succ_self _) h hsz W (hw.trans (hW.mono hw.size)))
  have LM := Lib.hid (fun (W : World) (hW : Below w.heap.size w W) => l11Map_any w0 nv l hl _ v t (Nat.lt_succ_self _) h hsz W (hw.trans (hW.mono hw.size)))
  have HP := Lib.hid (show mkB l t = false → ∀ e w', (∃ sl, e = .returned (.tuple #[t.agg sl, .bool false]) ∧ OwnS w' (fun x => w.heap.size ≤ x) sl t.kids ∧ Below w.heap.size w w') → VBRet w ((kyR (byMap l) l t).getD t) (kyR (byMap l) l t).isSome e w' from fun hn e w' ⟨sl, h1, h2, h3⟩ => by
    rw [kyR_map, hn]; obtain ⟨_, _, hwf, _⟩ := h; exact ⟨sl, h1, hwf, h2, h3⟩)
  have HS := Lib.hid (show mkB l t = true → (mapT l t).wf → ∀ e w', (∃ sl, e = .returned (.tuple #[(mapT l t).agg sl, .bool true]) ∧ OwnS w' (fun x => w.heap.size ≤ x) sl (mapT l t).kids ∧ Below w.heap.size w w') → VBRet w ((kyR (byMap l) l t).getD t) (kyR (byMap l) l t).isSome e w' from fun hn hwf e w' ⟨sl, h1, h2, h3⟩ => by
    rw [kyR_map, hn]; exact ⟨sl, h1, hwf, h2, h3⟩)
  have HK := Lib.hid (show mkB l t = (okT t && namesB l && !whole t) from rfl)
  obtain ⟨na, nn, nc, rfl⟩ : ∃ a n c, nv = .slice a n c := by obtain ⟨a, _, _, c, h, _⟩ := hl; exact ⟨a, _, c, h⟩
  obtain ⟨sl, rfl, hwf, hr⟩ := h
  obtain ⟨sa, sc, rfl⟩ := hr.slice
  clear hr hwf hl hlz hsz
  unfold ValRet at OW LM
  unfold V.agg at *
  generalize kyR (byMap l) l t = KR at *
  generalize mkB l t = mb at *
  generalize mapT l t = u at *
  generalize okT t = b at *
  generalize namesB l = nb at *
  generalize whole t = wb at *
  generalize t.k = k at *
  generalize t.n = n at *
  generalize t.e = e at *
  generalize t.s = s at *
  generalize t.kids = ts at *
  have BX := Lib.hid (show Box ((w.alloc (.cells #[.int .i64 k, .int .i64 n, .int .i64 e, .string s, .slice sa ts.length sc] 30)).alloc (.cells #[.int .i64 0, .int .i64 0, .int .i64 0, .string ⟨#[]⟩, .slice none 0 0] 30)) w.heap.size k n e s (.slice sa ts.length sc) 30 from (Box.new w _ _ _ _ _ _).alloc _)
  have BZ := Lib.hid (show Box ((w.alloc (.cells #[.int .i64 k, .int .i64 n, .int .i64 e, .string s, .slice sa ts.length sc] 30)).alloc (.cells #[.int .i64 0, .int .i64 0, .int .i64 0, .string ⟨#[]⟩, .slice none 0 0] 30)) (w.heap.size + 1) 0 0 0 ⟨#[]⟩ (.slice none 0 0) 30 by
    have := Box.new (w.alloc (.cells #[.int .i64 k, .int .i64 n, .int .i64 e, .string s, .slice sa ts.length sc] 30)) 0 0 0 ⟨#[]⟩ (.slice none 0 0) 30
    rwa [show (w.alloc (.cells #[.int .i64 k, .int .i64 n, .int .i64 e, .string s, .slice sa ts.length sc] 30)).heap.size = w.heap.size + 1 by simp] at this)
  cases b
  · have H := Lib.hid (HP.out (by rw [HK.out]; rfl))
    clear HP HS HK LM WH NO
    go_enter Tryd.func29, Tryd.ntmps29
    go_wp2_with fail
    refine (VO.out _ ((by (repeat' (first | with_reducible exact Below.refl _ _ | with_reducible refine below_alloc ?_ _ ?_ | with_reducible refine Below.setCell ?_ ?_ _ | with_reducible refine Below.drew ?_ | with_reducible refine below_drewN ?_ _ | with_reducible refine below_step ?_ (by assumption) ?_ | with_reducible refine below_mark ?_ (by assumption) ?_)); all_goals (first | omega | (simp; done) | (simp; omega))))).mono ?_
    rintro x w1 ⟨rfl, hb1⟩
    have hz1 := hb1.size
    try simp at hz1
    obtain ⟨p0, p1, p2, p3, p4⟩ := (BX.out.stay hb1).cells
    go_wp2_with fail
    refine (OW.out _ ((by (repeat' (first | with_reducible exact Below.refl _ _ | with_reducible refine below_alloc ?_ _ ?_ | with_reducible refine Below.setCell ?_ ?_ _ | with_reducible refine Below.drew ?_ | with_reducible refine below_drewN ?_ _ | with_reducible refine below_step ?_ (by assumption) ?_ | with_reducible refine below_mark ?_ (by assumption) ?_)); all_goals (first | omega | (simp; done) | (simp; omega))))).mono ?_
    rintro x w9 ⟨s9, rfl, wf9, ho9, hb9⟩
    obtain ⟨oa, on, oc, rfl⟩ : ∃ sa sn sc, s9 = .slice sa sn sc := by obtain ⟨p, q, e⟩ := ho9.slice; exact ⟨p, _, q, e⟩
    have hz9 := hb9.size
    try simp at hz9
    have HO := Lib.hid (show OwnS w9 (fun x => w.heap.size + 1 + 1 ≤ x) (.slice oa on oc) ts from ho9.mono (fun x hx => Nat.le_trans (by first | omega | (simp; omega)) hx)); clear ho9
    have BZ9 := Lib.hid (BZ.out.stay (show Below ((w.alloc (.cells #[.int .i64 k, .int .i64 n, .int .i64 e, .string s, .slice sa ts.length sc] 30)).alloc (.cells #[.int .i64 0, .int .i64 0, .int .i64 0, .string ⟨#[]⟩, .slice none 0 0] 30)).heap.size ((w.alloc (.cells #[.int .i64 k, .int .i64 n, .int .i64 e, .string s, .slice sa ts.length sc] 30)).alloc (.cells #[.int .i64 0, .int .i64 0, .int .i64 0, .string ⟨#[]⟩, .slice none 0 0] 30)) w9 from (by (repeat' (first | with_reducible exact Below.refl _ _ | with_reducible refine below_alloc ?_ _ ?_ | with_reducible refine Below.setCell ?_ ?_ _ | with_reducible refine Below.drew ?_ | with_reducible refine below_drewN ?_ _ | with_reducible refine below_step ?_ (by assumption) ?_ | with_reducible refine below_mark ?_ (by assumption) ?_)); all_goals (first | omega | (simp; done) | (simp; omega)))))
    obtain ⟨z0, z1, z2, z3, z4⟩ := BZ9.out.cells
    have zf0 := BZ9.out.free (i := 0); have zf1 := BZ9.out.free (i := 1); have zf2 := BZ9.out.free (i := 2); have zf3 := BZ9.out.free (i := 3); have zf4 := BZ9.out.free (i := 4)
    try unfold V.agg
    go_wp2_with fail
    refine bodyPost_ret (v := .tuple #[.agg #[.int .i64 k, .int .i64 n, .int .i64 e, .string s, .slice oa on oc], .bool false]) (by simp [results, Tryd.results29, go_sem, z0, z1, z2, z3, z4]) rfl (H.out _ _ ⟨_, rfl, ?_, (by (repeat' (first | with_reducible exact Below.refl _ _ | with_reducible refine below_alloc ?_ _ ?_ | with_reducible refine Below.setCell ?_ ?_ _ | with_reducible refine Below.drew ?_ | with_reducible refine below_drewN ?_ _ | with_reducible refine below_step ?_ (by assumption) ?_ | with_reducible refine below_mark ?_ (by assumption) ?_)); all_goals (first | omega | (simp; done) | (simp; omega)))⟩)
    refine OwnS.mono (F := fun x => w.heap.size + 1 + 1 ≤ x) ?_ (fun x hx => by omega)
    repeat refine OwnS.set ?_ _ _ (by first | omega | (simp; done) | (simp; omega))
    exact HO.out
  · cases nb
    · have H := Lib.hid (HP.out (by rw [HK.out]; rfl))
      clear HP HS HK LM WH
      go_enter Tryd.func29, Tryd.ntmps29
      go_wp2_with fail
      refine (VO.out _ ((by (repeat' (first | with_reducible exact Below.refl _ _ | with_reducible refine below_alloc ?_ _ ?_ | with_reducible refine Below.setCell ?_ ?_ _ | with_reducible refine Below.drew ?_ | with_reducible refine below_drewN ?_ _ | with_reducible refine below_step ?_ (by assumption) ?_ | with_reducible refine below_mark ?_ (by assumption) ?_)); all_goals (first | omega | (simp; done) | (simp; omega))))).mono ?_
      rintro x w1 ⟨rfl, hb1⟩
      have hz1 := hb1.size
      try simp at hz1
      obtain ⟨p0, p1, p2, p3, p4⟩ := (BX.out.stay hb1).cells
      go_wp2_with fail
      refine (NO.out _ ((by (repeat' (first | with_reducible exact Below.refl _ _ | with_reducible refine below_alloc ?_ _ ?_ | with_reducible refine Below.setCell ?_ ?_ _ | with_reducible refine Below.drew ?_ | with_reducible refine below_drewN ?_ _ | with_reducible refine below_step ?_ (by assumption) ?_ | with_reducible refine below_mark ?_ (by assumption) ?_)); all_goals (first | omega | (simp; done) | (simp; omega))))).mono ?_
      rintro x w2 ⟨rfl, hb2⟩
      have hz2 := hb2.size
      try simp at hz2
      clear p0 p1 p2 p3 p4
      obtain ⟨p0, p1, p2, p3, p4⟩ := ((BX.out.stay hb1).stay hb2).cells
      go_wp2_with fail
      refine (OW.out _ ((by (repeat' (first | with_reducible exact Below.refl _ _ | with_reducible refine below_alloc ?_ _ ?_ | with_reducible refine Below.setCell ?_ ?_ _ | with_reducible refine Below.drew ?_ | with_reducible refine below_drewN ?_ _ | with_reducible refine below_step ?_ (by assumption) ?_ | with_reducible refine below_mark ?_ (by assumption) ?_)); all_goals (first | omega | (simp; done) | (simp; omega))))).mono ?_
      rintro x w9 ⟨s9, rfl, wf9, ho9, hb9⟩
      obtain ⟨oa, on, oc, rfl⟩ : ∃ sa sn sc, s9 = .slice sa sn sc := by obtain ⟨p, q, e⟩ := ho9.slice; exact ⟨p, _, q, e⟩
      have hz9 := hb9.size
      try simp at hz9
      have HO := Lib.hid (show OwnS w9 (fun x => w.heap.size + 1 + 1 ≤ x) (.slice oa on oc) ts from ho9.mono (fun x hx => Nat.le_trans (by first | omega | (simp; omega)) hx)); clear ho9
      have BZ9 := Lib.hid (BZ.out.stay (show Below ((w.alloc (.cells #[.int .i64 k, .int .i64 n, .int .i64 e, .string s, .slice sa ts.length sc] 30)).alloc (.cells #[.int .i64 0, .int .i64 0, .int .i64 0, .string ⟨#[]⟩, .slice none 0 0] 30)).heap.size ((w.alloc (.cells #[.int .i64 k, .int .i64 n, .int .i64 e, .string s, .slice sa ts.length sc] 30)).alloc (.cells #[.int .i64 0, .int .i64 0, .int .i64 0, .string ⟨#[]⟩, .slice none 0 0] 30)) w9 from (by (repeat' (first | with_reducible exact Below.refl _ _ | with_reducible refine below_alloc ?_ _ ?_ | with_reducible refine Below.setCell ?_ ?_ _ | with_reducible refine Below.drew ?_ | with_reducible refine below_drewN ?_ _ | with_reducible refine below_step ?_ (by assumption) ?_ | with_reducible refine below_mark ?_ (by assumption) ?_)); all_goals (first | omega | (simp; done) | (simp; omega)))))
      obtain ⟨z0, z1, z2, z3, z4⟩ := BZ9.out.cells
      have zf0 := BZ9.out.free (i := 0); have zf1 := BZ9.out.free (i := 1); have zf2 := BZ9.out.free (i := 2); have zf3 := BZ9.out.free (i := 3); have zf4 := BZ9.out.free (i := 4)
      try unfold V.agg
      go_wp2_with fail
      refine bodyPost_ret (v := .tuple #[.agg #[.int .i64 k, .int .i64 n, .int .i64 e, .string s, .slice oa on oc], .bool false]) (by simp [results, Tryd.results29, go_sem, z0, z1, z2, z3, z4]) rfl (H.out _ _ ⟨_, rfl, ?_, (by (repeat' (first | with_reducible exact Below.refl _ _ | with_reducible refine below_alloc ?_ _ ?_ | with_reducible refine Below.setCell ?_ ?_ _ | with_reducible refine Below.drew ?_ | with_reducible refine below_drewN ?_ _ | with_reducible refine below_step ?_ (by assumption) ?_ | with_reducible refine below_mark ?_ (by assumption) ?_)); all_goals (first | omega | (simp; done) | (simp; omega)))⟩)
      refine OwnS.mono (F := fun x => w.heap.size + 1 + 1 ≤ x) ?_ (fun x hx => by omega)
      repeat refine OwnS.set ?_ _ _ (by first | omega | (simp; done) | (simp; omega))
      exact HO.out
    · cases wb
      · have HSU := Lib.hid (HS.out (by rw [HK.out]; rfl))
        clear HP HS HK OW
        go_enter Tryd.func29, Tryd.ntmps29
        go_wp2_with fail
        refine (VO.out _ ((by (repeat' (first | with_reducible exact Below.refl _ _ | with_reducible refine below_alloc ?_ _ ?_ | with_reducible refine Below.setCell ?_ ?_ _ | with_reducible refine Below.drew ?_ | with_reducible refine below_drewN ?_ _ | with_reducible refine below_step ?_ (by assumption) ?_ | with_reducible refine below_mark ?_ (by assumption) ?_)); all_goals (first | omega | (simp; done) | (simp; omega))))).mono ?_
        rintro x w1 ⟨rfl, hb1⟩
        have hz1 := hb1.size
        try simp at hz1
        obtain ⟨p0, p1, p2, p3, p4⟩ := (BX.out.stay hb1).cells
        go_wp2_with fail
        refine (NO.out _ ((by (repeat' (first | with_reducible exact Below.refl _ _ | with_reducible refine below_alloc ?_ _ ?_ | with_reducible refine Below.setCell ?_ ?_ _ | with_reducible refine Below.drew ?_ | with_reducible refine below_drewN ?_ _ | with_reducible refine below_step ?_ (by assumption) ?_ | with_reducible refine below_mark ?_ (by assumption) ?_)); all_goals (first | omega | (simp; done) | (simp; omega))))).mono ?_
        rintro x w2 ⟨rfl, hb2⟩
        have hz2 := hb2.size
        try simp at hz2
        clear p0 p1 p2 p3 p4
        obtain ⟨p0, p1, p2, p3, p4⟩ := ((BX.out.stay hb1).stay hb2).cells
        go_wp2_with fail
        refine (WH.out _ ((by (repeat' (first | with_reducible exact Below.refl _ _ | with_reducible refine below_alloc ?_ _ ?_ | with_reducible refine Below.setCell ?_ ?_ _ | with_reducible refine Below.drew ?_ | with_reducible refine below_drewN ?_ _ | with_reducible refine below_step ?_ (by assumption) ?_ | with_reducible refine below_mark ?_ (by assumption) ?_)); all_goals (first | omega | (simp; done) | (simp; omega))))).mono ?_
        rintro x w3 ⟨rfl, hb3⟩
        have hz3 := hb3.size
        try simp at hz3
        clear p0 p1 p2 p3 p4
        obtain ⟨p0, p1, p2, p3, p4⟩ := (((BX.out.stay hb1).stay hb2).stay hb3).cells
        go_wp2_with fail
        refine (LM.out _ ((by (repeat' (first | with_reducible exact Below.refl _ _ | with_reducible refine below_alloc ?_ _ ?_ | with_reducible refine Below.setCell ?_ ?_ _ | with_reducible refine Below.drew ?_ | with_reducible refine below_drewN ?_ _ | with_reducible refine below_step ?_ (by assumption) ?_ | with_reducible refine below_mark ?_ (by assumption) ?_)); all_goals (first | omega | (simp; done) | (simp; omega))))).mono ?_
        rintro x w9 ⟨s9, rfl, wf9, ho9, hb9⟩
        obtain ⟨oa, on, oc, rfl⟩ : ∃ sa sn sc, s9 = .slice sa sn sc := by obtain ⟨p, q, e⟩ := ho9.slice; exact ⟨p, _, q, e⟩
        have hz9 := hb9.size
        try simp at hz9
        have HO := Lib.hid (show OwnS w9 (fun x => w.heap.size + 1 + 1 ≤ x) (.slice oa on oc) u.kids from ho9.mono (fun x hx => Nat.le_trans (by first | omega | (simp; omega)) hx)); clear ho9
        have BZ9 := Lib.hid (BZ.out.stay (show Below ((w.alloc (.cells #[.int .i64 k, .int .i64 n, .int .i64 e, .string s, .slice sa ts.length sc] 30)).alloc (.cells #[.int .i64 0, .int .i64 0, .int .i64 0, .string ⟨#[]⟩, .slice none 0 0] 30)).heap.size ((w.alloc (.cells #[.int .i64 k, .int .i64 n, .int .i64 e, .string s, .slice sa ts.length sc] 30)).alloc (.cells #[.int .i64 0, .int .i64 0, .int .i64 0, .string ⟨#[]⟩, .slice none 0 0] 30)) w9 from (by (repeat' (first | with_reducible exact Below.refl _ _ | with_reducible refine below_alloc ?_ _ ?_ | with_reducible refine Below.setCell ?_ ?_ _ | with_reducible refine Below.drew ?_ | with_reducible refine below_drewN ?_ _ | with_reducible refine below_step ?_ (by assumption) ?_ | with_reducible refine below_mark ?_ (by assumption) ?_)); all_goals (first | omega | (simp; done) | (simp; omega)))))
        obtain ⟨z0, z1, z2, z3, z4⟩ := BZ9.out.cells
        have zf0 := BZ9.out.free (i := 0); have zf1 := BZ9.out.free (i := 1); have zf2 := BZ9.out.free (i := 2); have zf3 := BZ9.out.free (i := 3); have zf4 := BZ9.out.free (i := 4)
        try unfold V.agg
        go_wp2_with fail
        refine bodyPost_ret (v := .tuple #[.agg #[.int .i64 u.k, .int .i64 u.n, .int .i64 u.e, .string u.s, .slice oa on oc], .bool true]) (by simp [results, Tryd.results29, go_sem, z0, z1, z2, z3, z4]) rfl (HSU.out wf9 _ _ ⟨_, rfl, ?_, (by (repeat' (first | with_reducible exact Below.refl _ _ | with_reducible refine below_alloc ?_ _ ?_ | with_reducible refine Below.setCell ?_ ?_ _ | with_reducible refine Below.drew ?_ | with_reducible refine below_drewN ?_ _ | with_reducible refine below_step ?_ (by assumption) ?_ | with_reducible refine below_mark ?_ (by assumption) ?_)); all_goals (first | omega | (simp; done) | (simp; omega)))⟩)
        refine OwnS.mono (F := fun x => w.heap.size + 1 + 1 ≤ x) ?_ (fun x hx => by omega)
        repeat refine OwnS.set ?_ _ _ (by first | omega | (simp; done) | (simp; omega))
        exact HO.out
      · have H := Lib.hid (HP.out (by rw [HK.out]; rfl))
        clear HP HS HK LM
        go_enter Tryd.func29, Tryd.ntmps29
        go_wp2_with fail
        refine (VO.out _ ((by (repeat' (first | with_reducible exact Below.refl _ _ | with_reducible refine below_alloc ?_ _ ?_ | with_reducible refine Below.setCell ?_ ?_ _ | with_reducible refine Below.drew ?_ | with_reducible refine below_drewN ?_ _ | with_reducible refine below_step ?_ (by assumption) ?_ | with_reducible refine below_mark ?_ (by assumption) ?_)); all_goals (first | omega | (simp; done) | (simp; omega))))).mono ?_
        rintro x w1 ⟨rfl, hb1⟩
        have hz1 := hb1.size
        try simp at hz1
        obtain ⟨p0, p1, p2, p3, p4⟩ := (BX.out.stay hb1).cells
        go_wp2_with fail
        refine (NO.out _ ((by (repeat' (first | with_reducible exact Below.refl _ _ | with_reducible refine below_alloc ?_ _ ?_ | with_reducible refine Below.setCell ?_ ?_ _ | with_reducible refine Below.drew ?_ | with_reducible refine below_drewN ?_ _ | with_reducible refine below_step ?_ (by assumption) ?_ | with_reducible refine below_mark ?_ (by assumption) ?_)); all_goals (first | omega | (simp; done) | (simp; omega))))).mono ?_
        rintro x w2 ⟨rfl, hb2⟩
        have hz2 := hb2.size
        try simp at hz2
        clear p0 p1 p2 p3 p4
        obtain ⟨p0, p1, p2, p3, p4⟩ := ((BX.out.stay hb1).stay hb2).cells
        go_wp2_with fail
        refine (WH.out _ ((by (repeat' (first | with_reducible exact Below.refl _ _ | with_reducible refine below_alloc ?_ _ ?_ | with_reducible refine Below.setCell ?_ ?_ _ | with_reducible refine Below.drew ?_ | with_reducible refine below_drewN ?_ _ | with_reducible refine below_step ?_ (by assumption) ?_ | with_reducible refine below_mark ?_ (by assumption) ?_)); all_goals (first | omega | (simp; done) | (simp; omega))))).mono ?_
        rintro x w3 ⟨rfl, hb3⟩
        have hz3 := hb3.size
        try simp at hz3
        clear p0 p1 p2 p3 p4
        obtain ⟨p0, p1, p2, p3, p4⟩ := (((BX.out.stay hb1).stay hb2).stay hb3).cells
        go_wp2_with fail
        refine (OW.out _ ((by (repeat' (first | with_reducible exact Below.refl _ _ | with_reducible refine below_alloc ?_ _ ?_ | with_reducible refine Below.setCell ?_ ?_ _ | with_reducible refine Below.drew ?_ | with_reducible refine below_drewN ?_ _ | with_reducible refine below_step ?_ (by assumption) ?_ | with_reducible refine below_mark ?_ (by assumption) ?_)); all_goals (first | omega | (simp; done) | (simp; omega))))).mono ?_
        rintro x w9 ⟨s9, rfl, wf9, ho9, hb9⟩
        obtain ⟨oa, on, oc, rfl⟩ : ∃ sa sn sc, s9 = .slice sa sn sc := by obtain ⟨p, q, e⟩ := ho9.slice; exact ⟨p, _, q, e⟩
        have hz9 := hb9.size
        try simp at hz9
        have HO := Lib.hid (show OwnS w9 (fun x => w.heap.size + 1 + 1 ≤ x) (.slice oa on oc) ts from ho9.mono (fun x hx => Nat.le_trans (by first | omega | (simp; omega)) hx)); clear ho9
        have BZ9 := Lib.hid (BZ.out.stay (show Below ((w.alloc (.cells #[.int .i64 k, .int .i64 n, .int .i64 e, .string s, .slice sa ts.length sc] 30)).alloc (.cells #[.int .i64 0, .int .i64 0, .int .i64 0, .string ⟨#[]⟩, .slice none 0 0] 30)).heap.size ((w.alloc (.cells #[.int .i64 k, .int .i64 n, .int .i64 e, .string s, .slice sa ts.length sc] 30)).alloc (.cells #[.int .i64 0, .int .i64 0, .int .i64 0, .string ⟨#[]⟩, .slice none 0 0] 30)) w9 from (by (repeat' (first | with_reducible exact Below.refl _ _ | with_reducible refine below_alloc ?_ _ ?_ | with_reducible refine Below.setCell ?_ ?_ _ | with_reducible refine Below.drew ?_ | with_reducible refine below_drewN ?_ _ | with_reducible refine below_step ?_ (by assumption) ?_ | with_reducible refine below_mark ?_ (by assumption) ?_)); all_goals (first | omega | (simp; done) | (simp; omega)))))
        obtain ⟨z0, z1, z2, z3, z4⟩ := BZ9.out.cells
        have zf0 := BZ9.out.free (i := 0); have zf1 := BZ9.out.free (i := 1); have zf2 := BZ9.out.free (i := 2); have zf3 := BZ9.out.free (i := 3); have zf4 := BZ9.out.free (i := 4)
        try unfold V.agg
        go_wp2_with fail
        refine bodyPost_ret (v := .tuple #[.agg #[.int .i64 k, .int .i64 n, .int .i64 e, .string s, .slice oa on oc], .bool false]) (by simp [results, Tryd.results29, go_sem, z0, z1, z2, z3, z4]) rfl (H.out _ _ ⟨_, rfl, ?_, (by (repeat' (first | with_reducible exact Below.refl _ _ | with_reducible refine below_alloc ?_ _ ?_ | with_reducible refine Below.setCell ?_ ?_ _ | with_reducible refine Below.drew ?_ | with_reducible refine below_drewN ?_ _ | with_reducible refine below_step ?_ (by assumption) ?_ | with_reducible refine below_mark ?_ (by assumption) ?_)); all_goals (first | omega | (simp; done) | (simp; omega)))⟩)
        refine OwnS.mono (F := fun x => w.heap.size + 1 + 1 ≤ x) ?_ (fun x hx => by omega)
        repeat refine OwnS.set ?_ _ _ (by first | omega | (simp; done) | (simp; omega))
        exact HO.out
set_option maxHeartbeats 2000000 in
theorem UnmapKeys_spec (w0 : World) (v : Value) (t : V) (h : Rep w0 v t) (hsz : t.sz ≤ 1048576) (nv : Value) (l : List ByteArray) (hl : RepSs w0 nv l) (hlz : szl l ≤ 1048576) (w : World) (hw : Below w0.heap.size w0 w) :
    Calls Tryd.prog 34 #[v, nv] w (VBRet w ((kyR (byUn l) l t).getD t) (kyR (byUn l) l t).isSome) := by
  have VO := Lib.hid (fun (W : World) (hW : Below w.heap.size w W) => ValueOk_spec w0 v t h hsz W (hw.trans (hW.mono hw.size)))
  have NO := Lib.hid (fun (W : World) (hW : Below w.heap.size w W) => NamesOk_spec w0 nv l hl hlz W (hw.trans (hW.mono hw.size)))
  have OW := Lib.hid (fun (W : World) (hW : Below w.heap.size w W) => copy_any w0 v t h hsz W (hw.trans (hW.mono hw.size)))
  have TK := Lib.hid (fun (hok : okT t = true) (W : World) (hW : Below w.heap.size w W) => l11Unmap_any w0 nv l hl _ v t 12 (Nat.lt_succ_self _) (by simp only [okT, Bool.and_eq_true] at hok; exact hok.1) h hsz W (hw.trans (hW.mono hw.size)))
  have VU := Lib.hid (fun (u : V) (x : Value) (W W2 : World) (hok : okT t = true) (hn : namesB l = true) (e : trn (unS l) t = some u) (hr : Rep W x u) (hW2 : Below W.heap.size W W2) => ValueOk_spec W x u hr (un_sz l hn hok (by rw [← e]; simp only [okT, Bool.and_eq_true] at hok; exact un_same l hok.1)) W2 hW2)
  have HP := Lib.hid (show kyR (byUn l) l t = none → ∀ e w', (∃ sl, e = .returned (.tuple #[t.agg sl, .bool false]) ∧ OwnS w' (fun x => w.heap.size ≤ x) sl t.kids ∧ Below w.heap.size w w') → VBRet w ((kyR (byUn l) l t).getD t) (kyR (byUn l) l t).isSome e w' from fun hn e w' ⟨sl, h1, h2, h3⟩ => by
    rw [hn]; obtain ⟨_, _, hwf, _⟩ := h; exact ⟨sl, h1, hwf, h2, h3⟩)
  have HS := Lib.hid (show ∀ u, kyR (byUn l) l t = some u → u.wf → ∀ e w', (∃ sl, e = .returned (.tuple #[u.agg sl, .bool true]) ∧ OwnS w' (fun x => w.heap.size ≤ x) sl u.kids ∧ Below w.heap.size w w') → VBRet w ((kyR (byUn l) l t).getD t) (kyR (byUn l) l t).isSome e w' from fun u hn hwf e w' ⟨sl, h1, h2, h3⟩ => by
    rw [hn]; exact ⟨sl, h1, hwf, h2, h3⟩)
  have HK := Lib.hid (kyR_un l t)
  obtain ⟨na, nn, nc, rfl⟩ : ∃ a n c, nv = .slice a n c := by obtain ⟨a, _, _, c, h, _⟩ := hl; exact ⟨a, _, c, h⟩
  obtain ⟨sl, rfl, hwf, hr⟩ := h
  obtain ⟨sa, sc, rfl⟩ := hr.slice
  clear hr hwf hl hlz hsz
  unfold ValRet at OW
  unfold V.agg at *
  generalize kyR (byUn l) l t = KR at *
  generalize hb : okT t = b at *
  clear hb
  generalize namesB l = nb at *
  generalize trn (unS l) t = ou at *
  generalize t.k = k at *
  generalize t.n = n at *
  generalize t.e = e at *
  generalize t.s = s at *
  generalize t.kids = ts at *
  have BX := Lib.hid (show Box ((w.alloc (.cells #[.int .i64 k, .int .i64 n, .int .i64 e, .string s, .slice sa ts.length sc] 30)).alloc (.cells #[.int .i64 0, .int .i64 0, .int .i64 0, .string ⟨#[]⟩, .slice none 0 0] 30)) w.heap.size k n e s (.slice sa ts.length sc) 30 from (Box.new w _ _ _ _ _ _).alloc _)
  have BZ := Lib.hid (show Box ((w.alloc (.cells #[.int .i64 k, .int .i64 n, .int .i64 e, .string s, .slice sa ts.length sc] 30)).alloc (.cells #[.int .i64 0, .int .i64 0, .int .i64 0, .string ⟨#[]⟩, .slice none 0 0] 30)) (w.heap.size + 1) 0 0 0 ⟨#[]⟩ (.slice none 0 0) 30 by
    have := Box.new (w.alloc (.cells #[.int .i64 k, .int .i64 n, .int .i64 e, .string s, .slice sa ts.length sc] 30)) 0 0 0 ⟨#[]⟩ (.slice none 0 0) 30
    rwa [show (w.alloc (.cells #[.int .i64 k, .int .i64 n, .int .i64 e, .string s, .slice sa ts.length sc] 30)).heap.size = w.heap.size + 1 by simp] at this)
  cases b
  · have H := Lib.hid (HP.out (by rw [HK.out]; rfl))
    clear HP HS HK VU TK NO
    go_enter Tryd.func34, Tryd.ntmps34
    go_wp2_with fail
    refine (VO.out _ ((by (repeat' (first | with_reducible exact Below.refl _ _ | with_reducible refine below_alloc ?_ _ ?_ | with_reducible refine Below.setCell ?_ ?_ _ | with_reducible refine Below.drew ?_ | with_reducible refine below_drewN ?_ _ | with_reducible refine below_step ?_ (by assumption) ?_ | with_reducible refine below_mark ?_ (by assumption) ?_)); all_goals (first | omega | (simp; done) | (simp; omega))))).mono ?_
    rintro x w1 ⟨rfl, hb1⟩
    have hz1 := hb1.size
    try simp at hz1
    obtain ⟨p0, p1, p2, p3, p4⟩ := (BX.out.stay hb1).cells
    go_wp2_with fail
    refine (OW.out _ ((by (repeat' (first | with_reducible exact Below.refl _ _ | with_reducible refine below_alloc ?_ _ ?_ | with_reducible refine Below.setCell ?_ ?_ _ | with_reducible refine Below.drew ?_ | with_reducible refine below_drewN ?_ _ | with_reducible refine below_step ?_ (by assumption) ?_ | with_reducible refine below_mark ?_ (by assumption) ?_)); all_goals (first | omega | (simp; done) | (simp; omega))))).mono ?_
    rintro x w9 ⟨s9, rfl, wf9, ho9, hb9⟩
    obtain ⟨oa, on, oc, rfl⟩ : ∃ sa sn sc, s9 = .slice sa sn sc := by obtain ⟨p, q, e⟩ := ho9.slice; exact ⟨p, _, q, e⟩
    have hz9 := hb9.size
    try simp at hz9
    have HO := Lib.hid (show OwnS w9 (fun x => w.heap.size + 1 + 1 ≤ x) (.slice oa on oc) ts from ho9.mono (fun x hx => Nat.le_trans (by first | omega | (simp; omega)) hx)); clear ho9
    have BZ9 := Lib.hid (BZ.out.stay (show Below ((w.alloc (.cells #[.int .i64 k, .int .i64 n, .int .i64 e, .string s, .slice sa ts.length sc] 30)).alloc (.cells #[.int .i64 0, .int .i64 0, .int .i64 0, .string ⟨#[]⟩, .slice none 0 0] 30)).heap.size ((w.alloc (.cells #[.int .i64 k, .int .i64 n, .int .i64 e, .string s, .slice sa ts.length sc] 30)).alloc (.cells #[.int .i64 0, .int .i64 0, .int .i64 0, .string ⟨#[]⟩, .slice none 0 0] 30)) w9 from (by (repeat' (first | with_reducible exact Below.refl _ _ | with_reducible refine below_alloc ?_ _ ?_ | with_reducible refine Below.setCell ?_ ?_ _ | with_reducible refine Below.drew ?_ | with_reducible refine below_drewN ?_ _ | with_reducible refine below_step ?_ (by assumption) ?_ | with_reducible refine below_mark ?_ (by assumption) ?_)); all_goals (first | omega | (simp; done) | (simp; omega)))))
    obtain ⟨z0, z1, z2, z3, z4⟩ := BZ9.out.cells
    have zf0 := BZ9.out.free (i := 0); have zf1 := BZ9.out.free (i := 1); have zf2 := BZ9.out.free (i := 2); have zf3 := BZ9.out.free (i := 3); have zf4 := BZ9.out.free (i := 4)
    try unfold V.agg
    go_wp2_with fail
    refine bodyPost_ret (v := .tuple #[.agg #[.int .i64 k, .int .i64 n, .int .i64 e, .string s, .slice oa on oc], .bool false]) (by simp [results, Tryd.results34, go_sem, z0, z1, z2, z3, z4]) rfl (H.out _ _ ⟨_, rfl, ?_, (by (repeat' (first | with_reducible exact Below.refl _ _ | with_reducible refine below_alloc ?_ _ ?_ | with_reducible refine Below.setCell ?_ ?_ _ | with_reducible refine Below.drew ?_ | with_reducible refine below_drewN ?_ _ | with_reducible refine below_step ?_ (by assumption) ?_ | with_reducible refine below_mark ?_ (by assumption) ?_)); all_goals (first | omega | (simp; done) | (simp; omega)))⟩)
    refine OwnS.mono (F := fun x => w.heap.size + 1 + 1 ≤ x) ?_ (fun x hx => by omega)
    repeat refine OwnS.set ?_ _ _ (by first | omega | (simp; done) | (simp; omega))
    exact HO.out
  · cases nb
    · have H := Lib.hid (HP.out (by rw [HK.out]; rfl))
      clear HP HS HK VU TK
      go_enter Tryd.func34, Tryd.ntmps34
      go_wp2_with fail
      refine (VO.out _ ((by (repeat' (first | with_reducible exact Below.refl _ _ | with_reducible refine below_alloc ?_ _ ?_ | with_reducible refine Below.setCell ?_ ?_ _ | with_reducible refine Below.drew ?_ | with_reducible refine below_drewN ?_ _ | with_reducible refine below_step ?_ (by assumption) ?_ | with_reducible refine below_mark ?_ (by assumption) ?_)); all_goals (first | omega | (simp; done) | (simp; omega))))).mono ?_
      rintro x w1 ⟨rfl, hb1⟩
      have hz1 := hb1.size
      try simp at hz1
      go_wp2_with fail
      refine (NO.out _ ((by (repeat' (first | with_reducible exact Below.refl _ _ | with_reducible refine below_alloc ?_ _ ?_ | with_reducible refine Below.setCell ?_ ?_ _ | with_reducible refine Below.drew ?_ | with_reducible refine below_drewN ?_ _ | with_reducible refine below_step ?_ (by assumption) ?_ | with_reducible refine below_mark ?_ (by assumption) ?_)); all_goals (first | omega | (simp; done) | (simp; omega))))).mono ?_
      rintro x w2 ⟨rfl, hb2⟩
      have hz2 := hb2.size
      try simp at hz2
      obtain ⟨p0, p1, p2, p3, p4⟩ := ((BX.out.stay hb1).stay hb2).cells
      go_wp2_with fail
      refine (OW.out _ ((by (repeat' (first | with_reducible exact Below.refl _ _ | with_reducible refine below_alloc ?_ _ ?_ | with_reducible refine Below.setCell ?_ ?_ _ | with_reducible refine Below.drew ?_ | with_reducible refine below_drewN ?_ _ | with_reducible refine below_step ?_ (by assumption) ?_ | with_reducible refine below_mark ?_ (by assumption) ?_)); all_goals (first | omega | (simp; done) | (simp; omega))))).mono ?_
      rintro x w9 ⟨s9, rfl, wf9, ho9, hb9⟩
      obtain ⟨oa, on, oc, rfl⟩ : ∃ sa sn sc, s9 = .slice sa sn sc := by obtain ⟨p, q, e⟩ := ho9.slice; exact ⟨p, _, q, e⟩
      have hz9 := hb9.size
      try simp at hz9
      have HO := Lib.hid (show OwnS w9 (fun x => w.heap.size + 1 + 1 ≤ x) (.slice oa on oc) ts from ho9.mono (fun x hx => Nat.le_trans (by first | omega | (simp; omega)) hx)); clear ho9
      have BZ9 := Lib.hid (BZ.out.stay (show Below ((w.alloc (.cells #[.int .i64 k, .int .i64 n, .int .i64 e, .string s, .slice sa ts.length sc] 30)).alloc (.cells #[.int .i64 0, .int .i64 0, .int .i64 0, .string ⟨#[]⟩, .slice none 0 0] 30)).heap.size ((w.alloc (.cells #[.int .i64 k, .int .i64 n, .int .i64 e, .string s, .slice sa ts.length sc] 30)).alloc (.cells #[.int .i64 0, .int .i64 0, .int .i64 0, .string ⟨#[]⟩, .slice none 0 0] 30)) w9 from (by (repeat' (first | with_reducible exact Below.refl _ _ | with_reducible refine below_alloc ?_ _ ?_ | with_reducible refine Below.setCell ?_ ?_ _ | with_reducible refine Below.drew ?_ | with_reducible refine below_drewN ?_ _ | with_reducible refine below_step ?_ (by assumption) ?_ | with_reducible refine below_mark ?_ (by assumption) ?_)); all_goals (first | omega | (simp; done) | (simp; omega)))))
      obtain ⟨z0, z1, z2, z3, z4⟩ := BZ9.out.cells
      have zf0 := BZ9.out.free (i := 0); have zf1 := BZ9.out.free (i := 1); have zf2 := BZ9.out.free (i := 2); have zf3 := BZ9.out.free (i := 3); have zf4 := BZ9.out.free (i := 4)
      try unfold V.agg
      go_wp2_with fail
      refine bodyPost_ret (v := .tuple #[.agg #[.int .i64 k, .int .i64 n, .int .i64 e, .string s, .slice oa on oc], .bool false]) (by simp [results, Tryd.results34, go_sem, z0, z1, z2, z3, z4]) rfl (H.out _ _ ⟨_, rfl, ?_, (by (repeat' (first | with_reducible exact Below.refl _ _ | with_reducible refine below_alloc ?_ _ ?_ | with_reducible refine Below.setCell ?_ ?_ _ | with_reducible refine Below.drew ?_ | with_reducible refine below_drewN ?_ _ | with_reducible refine below_step ?_ (by assumption) ?_ | with_reducible refine below_mark ?_ (by assumption) ?_)); all_goals (first | omega | (simp; done) | (simp; omega)))⟩)
      refine OwnS.mono (F := fun x => w.heap.size + 1 + 1 ≤ x) ?_ (fun x hx => by omega)
      repeat refine OwnS.set ?_ _ _ (by first | omega | (simp; done) | (simp; omega))
      exact HO.out
    · go_enter Tryd.func34, Tryd.ntmps34
      go_wp2_with fail
      refine (VO.out _ ((by (repeat' (first | with_reducible exact Below.refl _ _ | with_reducible refine below_alloc ?_ _ ?_ | with_reducible refine Below.setCell ?_ ?_ _ | with_reducible refine Below.drew ?_ | with_reducible refine below_drewN ?_ _ | with_reducible refine below_step ?_ (by assumption) ?_ | with_reducible refine below_mark ?_ (by assumption) ?_)); all_goals (first | omega | (simp; done) | (simp; omega))))).mono ?_
      rintro x w1 ⟨rfl, hb1⟩
      have hz1 := hb1.size
      try simp at hz1
      go_wp2_with fail
      refine (NO.out _ ((by (repeat' (first | with_reducible exact Below.refl _ _ | with_reducible refine below_alloc ?_ _ ?_ | with_reducible refine Below.setCell ?_ ?_ _ | with_reducible refine Below.drew ?_ | with_reducible refine below_drewN ?_ _ | with_reducible refine below_step ?_ (by assumption) ?_ | with_reducible refine below_mark ?_ (by assumption) ?_)); all_goals (first | omega | (simp; done) | (simp; omega))))).mono ?_
      rintro x w2 ⟨rfl, hb2⟩
      have hz2 := hb2.size
      try simp at hz2
      have BX2 := Lib.hid ((BX.out.stay hb1).stay hb2)
      obtain ⟨p0, p1, p2, p3, p4⟩ := BX2.out.cells
      go_wp2_with fail
      refine (TK.out (by trivial) _ ((by (repeat' (first | with_reducible exact Below.refl _ _ | with_reducible refine below_alloc ?_ _ ?_ | with_reducible refine Below.setCell ?_ ?_ _ | with_reducible refine Below.drew ?_ | with_reducible refine below_drewN ?_ _ | with_reducible refine below_step ?_ (by assumption) ?_ | with_reducible refine below_mark ?_ (by assumption) ?_)); all_goals (first | omega | (simp; done) | (simp; omega))))).mono ?_
      rintro x w3 hret
      cases hou : ou with
      | none =>
        have H := Lib.hid (HP.out (by rw [HK.out, hou]; rfl))
        rw [hou] at hret
        obtain ⟨t', ta, tn, tc, rfl, hb3⟩ := hret
        unfold V.agg
        have hz3 := hb3.size
        clear p0 p1 p2 p3 p4
        obtain ⟨p0, p1, p2, p3, p4⟩ := (BX2.out.stay hb3).cells
        have hn3 : w.heap.size ≠ w3.heap.size := by omega
        have hn4 : w3.heap.size ≠ w.heap.size := by omega
        have hn5 : w.heap.size < w3.heap.size := by omega
        clear HP HS HK VU TK VO NO hou
        go_wp2_with fail
        refine (OW.out _ ((by (repeat' (first | with_reducible exact Below.refl _ _ | with_reducible refine below_alloc ?_ _ ?_ | with_reducible refine Below.setCell ?_ ?_ _ | with_reducible refine Below.drew ?_ | with_reducible refine below_drewN ?_ _ | with_reducible refine below_step ?_ (by assumption) ?_ | with_reducible refine below_mark ?_ (by assumption) ?_)); all_goals (first | omega | (simp; done) | (simp; omega))))).mono ?_
        rintro x w9 ⟨s9, rfl, wf9, ho9, hb9⟩
        obtain ⟨oa, on, oc, rfl⟩ : ∃ sa sn sc, s9 = .slice sa sn sc := by obtain ⟨p, q, e⟩ := ho9.slice; exact ⟨p, _, q, e⟩
        have hz9 := hb9.size
        try simp at hz9
        have HO := Lib.hid (show OwnS w9 (fun x => w.heap.size + 1 + 1 ≤ x) (.slice oa on oc) ts from ho9.mono (fun x hx => Nat.le_trans (by first | omega | (simp; omega)) hx)); clear ho9
        have BZ9 := Lib.hid (BZ.out.stay (show Below ((w.alloc (.cells #[.int .i64 k, .int .i64 n, .int .i64 e, .string s, .slice sa ts.length sc] 30)).alloc (.cells #[.int .i64 0, .int .i64 0, .int .i64 0, .string ⟨#[]⟩, .slice none 0 0] 30)).heap.size ((w.alloc (.cells #[.int .i64 k, .int .i64 n, .int .i64 e, .string s, .slice sa ts.length sc] 30)).alloc (.cells #[.int .i64 0, .int .i64 0, .int .i64 0, .string ⟨#[]⟩, .slice none 0 0] 30)) w9 from (by (repeat' (first | with_reducible exact Below.refl _ _ | with_reducible refine below_alloc ?_ _ ?_ | with_reducible refine Below.setCell ?_ ?_ _ | with_reducible refine Below.drew ?_ | with_reducible refine below_drewN ?_ _ | with_reducible refine below_step ?_ (by assumption) ?_ | with_reducible refine below_mark ?_ (by assumption) ?_)); all_goals (first | omega | (simp; done) | (simp; omega)))))
        obtain ⟨z0, z1, z2, z3, z4⟩ := BZ9.out.cells
        have zf0 := BZ9.out.free (i := 0); have zf1 := BZ9.out.free (i := 1); have zf2 := BZ9.out.free (i := 2); have zf3 := BZ9.out.free (i := 3); have zf4 := BZ9.out.free (i := 4)
        try unfold V.agg
        go_wp2_with fail
        refine bodyPost_ret (v := .tuple #[.agg #[.int .i64 k, .int .i64 n, .int .i64 e, .string s, .slice oa on oc], .bool false]) (by simp [results, Tryd.results34, go_sem, z0, z1, z2, z3, z4]) rfl (H.out _ _ ⟨_, rfl, ?_, (by (repeat' (first | with_reducible exact Below.refl _ _ | with_reducible refine below_alloc ?_ _ ?_ | with_reducible refine Below.setCell ?_ ?_ _ | with_reducible refine Below.drew ?_ | with_reducible refine below_drewN ?_ _ | with_reducible refine below_step ?_ (by assumption) ?_ | with_reducible refine below_mark ?_ (by assumption) ?_)); all_goals (first | omega | (simp; done) | (simp; omega)))⟩)
        refine OwnS.mono (F := fun x => w.heap.size + 1 + 1 ≤ x) ?_ (fun x hx => by omega)
        repeat refine OwnS.set ?_ _ _ (by first | omega | (simp; done) | (simp; omega))
        exact HO.out
      | some u =>
        rw [hou] at hret
        obtain ⟨us, rfl, uwf, uo, hb3⟩ := hret
        obtain ⟨ua, un, uc, rfl⟩ : ∃ a n c, us = .slice a n c := by obtain ⟨p, q, e⟩ := uo.slice; exact ⟨p, _, q, e⟩
        have hz3 := hb3.size
        have HU := Lib.hid (show Rep w3 (u.agg (.slice ua un uc)) u from ⟨_, rfl, uwf, uo.rep⟩)
        have UO := Lib.hid uo.bound; clear uo
        have VUX := Lib.hid (fun (W2 : World) (hW2 : Below w3.heap.size w3 W2) => VU.out u _ w3 W2 (by trivial) (by trivial) hou HU.out hW2)
        clear p0 p1 p2 p3 p4
        obtain ⟨p0, p1, p2, p3, p4⟩ := (BX2.out.stay hb3).cells
        have hn3 : w.heap.size ≠ w3.heap.size := by omega
        have hn4 : w3.heap.size ≠ w.heap.size := by omega
        have hn5 : w.heap.size < w3.heap.size := by omega
        have BU := Lib.hid (Box.new w3 u.k u.n u.e u.s (.slice ua un uc) 30)
        have HSU := Lib.hid (fun h => HS.out u h uwf)
        unfold V.agg at *
        clear VU HU TK VO NO HS
        go_wp2_with fail
        refine (VUX.out _ ((by (repeat' (first | with_reducible exact Below.refl _ _ | with_reducible refine below_alloc ?_ _ ?_ | with_reducible refine Below.setCell ?_ ?_ _ | with_reducible refine Below.drew ?_ | with_reducible refine below_drewN ?_ _ | with_reducible refine below_step ?_ (by assumption) ?_ | with_reducible refine below_mark ?_ (by assumption) ?_)); all_goals (first | omega | (simp; done) | (simp; omega))))).mono ?_
        rintro x w4 ⟨rfl, hb4⟩
        have hz4 := hb4.size
        simp at hz4
        clear p0 p1 p2 p3 p4
        cases hok : okT u
        · have H := Lib.hid (HP.out (by rw [HK.out, hou]; simp [Option.filter, hok]))
          obtain ⟨p0, p1, p2, p3, p4⟩ := (((BX2.out.stay hb3).alloc _).stay hb4).cells
          clear HP HSU HK VUX hok hou
          go_wp2_with fail
          refine (OW.out _ ((by (repeat' (first | with_reducible exact Below.refl _ _ | with_reducible refine below_alloc ?_ _ ?_ | with_reducible refine Below.setCell ?_ ?_ _ | with_reducible refine Below.drew ?_ | with_reducible refine below_drewN ?_ _ | with_reducible refine below_step ?_ (by assumption) ?_ | with_reducible refine below_mark ?_ (by assumption) ?_)); all_goals (first | omega | (simp; done) | (simp; omega))))).mono ?_
          rintro x w9 ⟨s9, rfl, wf9, ho9, hb9⟩
          obtain ⟨oa, on, oc, rfl⟩ : ∃ sa sn sc, s9 = .slice sa sn sc := by obtain ⟨p, q, e⟩ := ho9.slice; exact ⟨p, _, q, e⟩
          have hz9 := hb9.size
          try simp at hz9
          have HO := Lib.hid (show OwnS w9 (fun x => w.heap.size + 1 + 1 ≤ x) (.slice oa on oc) ts from ho9.mono (fun x hx => Nat.le_trans (by first | omega | (simp; omega)) hx)); clear ho9
          have BZ9 := Lib.hid (BZ.out.stay (show Below ((w.alloc (.cells #[.int .i64 k, .int .i64 n, .int .i64 e, .string s, .slice sa ts.length sc] 30)).alloc (.cells #[.int .i64 0, .int .i64 0, .int .i64 0, .string ⟨#[]⟩, .slice none 0 0] 30)).heap.size ((w.alloc (.cells #[.int .i64 k, .int .i64 n, .int .i64 e, .string s, .slice sa ts.length sc] 30)).alloc (.cells #[.int .i64 0, .int .i64 0, .int .i64 0, .string ⟨#[]⟩, .slice none 0 0] 30)) w9 from (by (repeat' (first | with_reducible exact Below.refl _ _ | with_reducible refine below_alloc ?_ _ ?_ | with_reducible refine Below.setCell ?_ ?_ _ | with_reducible refine Below.drew ?_ | with_reducible refine below_drewN ?_ _ | with_reducible refine below_step ?_ (by assumption) ?_ | with_reducible refine below_mark ?_ (by assumption) ?_)); all_goals (first | omega | (simp; done) | (simp; omega)))))
          obtain ⟨z0, z1, z2, z3, z4⟩ := BZ9.out.cells
          have zf0 := BZ9.out.free (i := 0); have zf1 := BZ9.out.free (i := 1); have zf2 := BZ9.out.free (i := 2); have zf3 := BZ9.out.free (i := 3); have zf4 := BZ9.out.free (i := 4)
          try unfold V.agg
          go_wp2_with fail
          refine bodyPost_ret (v := .tuple #[.agg #[.int .i64 k, .int .i64 n, .int .i64 e, .string s, .slice oa on oc], .bool false]) (by simp [results, Tryd.results34, go_sem, z0, z1, z2, z3, z4]) rfl (H.out _ _ ⟨_, rfl, ?_, (by (repeat' (first | with_reducible exact Below.refl _ _ | with_reducible refine below_alloc ?_ _ ?_ | with_reducible refine Below.setCell ?_ ?_ _ | with_reducible refine Below.drew ?_ | with_reducible refine below_drewN ?_ _ | with_reducible refine below_step ?_ (by assumption) ?_ | with_reducible refine below_mark ?_ (by assumption) ?_)); all_goals (first | omega | (simp; done) | (simp; omega)))⟩)
          refine OwnS.mono (F := fun x => w.heap.size + 1 + 1 ≤ x) ?_ (fun x hx => by omega)
          repeat refine OwnS.set ?_ _ _ (by first | omega | (simp; done) | (simp; omega))
          exact HO.out
        · have H := Lib.hid (HSU.out (by rw [HK.out, hou]; simp [Option.filter, hok]))
          obtain ⟨p0, p1, p2, p3, p4⟩ := (BU.out.stay hb4).cells
          have BZ9 := Lib.hid (BZ.out.stay (show Below ((w.alloc (.cells #[.int .i64 k, .int .i64 n, .int .i64 e, .string s, .slice sa ts.length sc] 30)).alloc (.cells #[.int .i64 0, .int .i64 0, .int .i64 0, .string ⟨#[]⟩, .slice none 0 0] 30)).heap.size ((w.alloc (.cells #[.int .i64 k, .int .i64 n, .int .i64 e, .string s, .slice sa ts.length sc] 30)).alloc (.cells #[.int .i64 0, .int .i64 0, .int .i64 0, .string ⟨#[]⟩, .slice none 0 0] 30)) w4 from (by (repeat' (first | with_reducible exact Below.refl _ _ | with_reducible refine below_alloc ?_ _ ?_ | with_reducible refine Below.setCell ?_ ?_ _ | with_reducible refine Below.drew ?_ | with_reducible refine below_drewN ?_ _ | with_reducible refine below_step ?_ (by assumption) ?_ | with_reducible refine below_mark ?_ (by assumption) ?_)); all_goals (first | omega | (simp; done) | (simp; omega)))))
          obtain ⟨z0, z1, z2, z3, z4⟩ := BZ9.out.cells
          have zf0 := BZ9.out.free (i := 0); have zf1 := BZ9.out.free (i := 1); have zf2 := BZ9.out.free (i := 2); have zf3 := BZ9.out.free (i := 3); have zf4 := BZ9.out.free (i := 4)
          have HO := Lib.hid (show OwnS w4 (fun x => w.heap.size + 1 + 1 ≤ x) (.slice ua un uc) u.kids from (UO.out.keep (fun x hx hxs => (show Below w3.heap.size w3 w4 from (by (repeat' (first | with_reducible exact Below.refl _ _ | with_reducible refine below_alloc ?_ _ ?_ | with_reducible refine Below.setCell ?_ ?_ _ | with_reducible refine Below.drew ?_ | with_reducible refine below_drewN ?_ _ | with_reducible refine below_step ?_ (by assumption) ?_ | with_reducible refine below_mark ?_ (by assumption) ?_)); all_goals (first | omega | (simp; done) | (simp; omega)))).block x hxs)).mono (fun x hx => by have := hx.1; omega))
          clear HP HSU HK VUX hok hou
          go_wp2_with fail
          refine bodyPost_ret (v := .tuple #[.agg #[.int .i64 u.k, .int .i64 u.n, .int .i64 u.e, .string u.s, .slice ua un uc], .bool true]) (by simp [results, Tryd.results34, go_sem, z0, z1, z2, z3, z4]) rfl (H.out _ _ ⟨_, rfl, ?_, (by (repeat' (first | with_reducible exact Below.refl _ _ | with_reducible refine below_alloc ?_ _ ?_ | with_reducible refine Below.setCell ?_ ?_ _ | with_reducible refine Below.drew ?_ | with_reducible refine below_drewN ?_ _ | with_reducible refine below_step ?_ (by assumption) ?_ | with_reducible refine below_mark ?_ (by assumption) ?_)); all_goals (first | omega | (simp; done) | (simp; omega)))⟩)
          refine OwnS.mono (F := fun x => w.heap.size + 1 + 1 ≤ x) ?_ (fun x hx => by omega)
          repeat refine OwnS.set ?_ _ _ (by first | omega | (simp; done) | (simp; omega))
          exact HO.out
end Go.Proofs.YtllngpnhhpnjoaaDoor
