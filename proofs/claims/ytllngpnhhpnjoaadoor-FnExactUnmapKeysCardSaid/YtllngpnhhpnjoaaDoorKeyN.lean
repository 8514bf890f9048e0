/- MapKeys and UnmapKeys, whole: the program's and the reference's. -/
import Derived.Test.YtllngpnhhpnjoaaDoorKeyM
namespace Go.Proofs.YtllngpnhhpnjoaaDoor
set_option linter.unusedVariables false
set_option maxRecDepth 100000
open Go.RowKit
theorem names_small {l : List ByteArray} (h : namesB l = true) : ∀ s ∈ l, s.size ≤ 100 := by
  simp only [namesB, Bool.and_eq_true] at h
  have key : ∀ k, k ≤ l.length → namesGo (l.take k) (l.drop k) = true := by
    intro k
    induction k with
    | zero => intro _; simpa using h.2
    | succ k ih =>
      intro hk
      have h1 := ih (by omega)
      rw [namesGo_step l k (by omega)] at h1
      simp only [Bool.and_eq_true] at h1
      exact h1.2
  intro s hs
  obtain ⟨k, hk, rfl⟩ := List.getElem_of_mem hs
  have h1 := key k (by omega)
  rw [namesGo_step l k hk] at h1
  simp only [Bool.and_eq_true, decide_eq_true_eq] at h1
  exact h1.1.1.1
theorem szs_small : ∀ us : List V, (∀ j (h : j < us.length), us[j].sz + 1 ≤ 2001 * us[j].nodes) → szs us ≤ 2001 * nodess us
  | [], _ => by simp [szs]
  | u :: us, h => by
    have h0 : u.sz + 1 ≤ 2001 * u.nodes := h 0 (by simp)
    have h1 := szs_small us (fun j hj => h (j + 1) (by simpa using hj))
    rw [szs, nodess]; omega
theorem un_small (l : List ByteArray) (hl : ∀ s ∈ l, s.size ≤ 100) : ∀ (N : Nat) (t u : V) (d : Int), t.nodes ≤ N → rightB t d = true → trn (unI l) t = some u → u.nodes = t.nodes ∧ u.sz + 1 ≤ 2001 * u.nodes := by
  intro N
  induction N with
  | zero => intro t u d h; rw [V.nodes_eq] at h; omega
  | succ N ih =>
    intro t u d hN hr hu
    have hk := right_kids hr
    rw [trn_eq] at hu
    cases hx : trns (unI l) (decide (t.k = 8)) 0 t.kids with
    | none => rw [hx] at hu; simp at hu
    | some us =>
      rw [hx] at hu
      simp only [Option.map_some, Option.some.injEq] at hu
      subst hu
      obtain ⟨hl2, hg⟩ := trns_get _ _ _ _ _ hx
      have el : ∀ j (hj : j < t.kids.length) (hj' : j < us.length), us[j].nodes = t.kids[j].nodes ∧ us[j].sz + 1 ≤ 2001 * us[j].nodes := by
        intro j hj hj'
        have h1 := hg j hj hj'
        rw [Nat.zero_add] at h1
        by_cases hb : (decide (t.k = 8) && decide (j % 2 = 0)) = true
        · have hb' := hb
          simp only [Bool.and_eq_true, decide_eq_true_eq] at hb'
          have hrj := rightsB_at hk j hj
          have hlf := key_leaf hrj (key_at hr hb'.1 j hj hb'.2)
          rw [hb] at h1
          simp only [unI, byUn, if_true] at h1
          split at h1
          · rw [← Option.some.inj h1]; exact ⟨rfl, right_small _ _ hrj⟩
          · unfold unkey at h1
            split at h1
            · rename_i hin
              rw [← Option.some.inj h1]
              have hix : t.kids[j].n.toNat < l.length := by omega
              have hs := hl _ (List.getElem_mem hix)
              have e9 : l.getD t.kids[j].n.toNat ⟨#[]⟩ = l[t.kids[j].n.toNat] := by rw [List.getD_eq_getElem?_getD, List.getElem?_eq_getElem hix]; rfl
              rw [e9]
              refine ⟨by rw [V.nodes_eq, V.nodes_eq, hlf]; rfl, ?_⟩
              rw [V.sz_eq, V.nodes_eq]
              show l[t.kids[j].n.toNat].size + 0 + 1 ≤ 2001 * (1 + 0)
              omega
            · simp at h1
        · rw [Bool.not_eq_true] at hb
          rw [hb] at h1
          simp only [unI, Bool.false_eq_true, if_false] at h1
          exact ih _ _ (d - 1) (by have := nodes_mem (List.getElem_mem hj); rw [V.nodes_eq] at hN; omega) (rightsB_at hk j hj) h1
      have hns := nodess_congr hl2 (fun j hj hj' => (el j hj' hj).1)
      have hss := szs_small us (fun j hj => (el j (by omega) hj).2)
      have hs := node_small (rightB_leaf hr).1
      refine ⟨?_, ?_⟩
      · rw [V.nodes_eq, V.nodes_eq]
        show 1 + nodess us = 1 + nodess t.kids
        rw [hns]
      · rw [V.nodes_eq, V.sz_eq]
        show t.s.size + szs us + 1 ≤ 2001 * (1 + nodess us)
        omega
theorem map_sz (l : List ByteArray) {t u : V} (h : okT t = true) (hu : trn (byF (byMap l)) t = some u) : u.sz ≤ 1048576 := by
  have := (ok_small (map_ok l h hu)).1; omega
theorem un_sz (l : List ByteArray) (hl : namesB l = true) {t u : V} (h : okT t = true) (hu : trn (byF (byUn l)) t = some u) : u.sz ≤ 1048576 := by
  have h2 := ok_small h
  simp only [okT, Bool.and_eq_true] at h
  have := un_small l (fun s hs => names_small hl s hs) _ t u 12 (Nat.le_refl _) h.1 hu
  omega
theorem kyR_sz (f : V → Option V) (l : List ByteArray) {t : V} (h : t.sz ≤ 1048576) : ((kyR f l t).getD t).sz ≤ 1048576 := by
  cases hk : kyR f l t with
  | none => exact h
  | some u =>
    unfold kyR at hk
    split at hk
    · rw [Option.filter_eq_some_iff] at hk
      have := (ok_small hk.2).1
      simp only [Option.getD_some]; omega
    · cases hk
def mkB (l : List ByteArray) (t : V) : Bool := okT t && namesB l && !whole t
theorem kyR_map (l : List ByteArray) (t : V) : kyR (byMap l) l t = if mkB l t then some (mapT l t) else none := by
  unfold kyR mkB
  by_cases h : (okT t && namesB l) = true
  · rw [if_pos h, h, Bool.true_and]
    have hok : okT t = true := by simp only [Bool.and_eq_true] at h; exact h.1
    have hr := hok
    simp only [okT, Bool.and_eq_true] at hr
    have hm := map_same l _ t 12 (Nat.le_refl _) hr.1
    have hm2 : trn (byF (byMap l)) t = if whole t then none else some (mapT l t) := hm
    rw [hm2]
    cases hw : whole t with
    | true => rfl
    | false =>
      have hu : trn (mapI l) t = some (mapT l t) := by rw [hm, hw]; rfl
      have := map_ok l hok hu
      simp [Option.filter, this]
  · rw [if_neg h, Bool.not_eq_true] at *
    rw [h]; rfl
theorem kyR_un (l : List ByteArray) (t : V) : kyR (byUn l) l t = if okT t && namesB l then (trn (unS l) t).filter (fun u => okT u) else none := by
  unfold kyR
  by_cases h : (okT t && namesB l) = true
  · rw [if_pos h, if_pos h]
    simp only [Bool.and_eq_true, okT] at h
    have : trn (byF (byUn l)) t = trn (unS l) t := un_same l h.1.1
    rw [this]
  · rw [if_neg h, if_neg h]
theorem enters_MapKeys1 : ∀ (args : Array Value) (w : World), (callFunc 80 args).run Tryd.prog w = .ok (.enter 80 args) w := by
  intro args w
  have h1 : (Tryd.f80.name == "runtime.NumGoroutine") = false := by kernel_rfl
  have h2 : Tryd.f80.body.isNone = false := by kernel_rfl
  have h1' : ¬ Tryd.f80.name = "runtime.NumGoroutine" := by simpa using h1
  have h2' : ¬ Tryd.f80.body = none := by intro e; rw [e] at h2; cases h2
  simp [callFunc, Tryd.func80, go_sem, h1', h2']
set_option maxHeartbeats 1000000 in
theorem MapKeys_impl (w0 : World) (v : Value) (t : V) (h : Rep w0 v t) (hsz : t.sz ≤ 1048576) (nv : Value) (l : List ByteArray) (hl : RepSs w0 nv l) (hlz : szl l ≤ 1048576) (w : World) (hw : Below w0.heap.size w0 w) (hE : Env w0) :
    Calls Tryd.prog 31 #[v, nv] w (VBRet w ((kyR (byMap l) l t).getD t) (kyR (byMap l) l t).isSome) := by
  have KY := Lib.hid (fun (c : Nat) (W : World) (hW : Below w.heap.size w W) (hc : NameAt W c nv) => keyed_any W (Env.keep (Env.keep hE hw) hW) v t ((h.keep hw).keep hW) hsz nv l ((hl.keep hw).keep hW) hlz (.func (.func 80) #[] #[.pointer (some ⟨c, 0, none⟩)]) (byMap l) W (Below.refl _ _)
    (fun hok W2 hW2 => turnKeys_any W 80 _ enters_MapKeys1 (byMap l) (fun t sl w hwf hk _ hr hw2 => MapKeys1_any W nv l ((hl.keep hw).keep hW) c hc t sl w hwf hk hr hw2) _ v t 12 (Nat.lt_succ_self _) (by simp only [okT, Bool.and_eq_true] at hok; exact hok.1) ((h.keep hw).keep hW) hsz W2 hW2)
    (fun hok _ u hu => map_sz l hok hu))
  have HP := Lib.hid (show ∀ W (hW : Below w.heap.size w W) e w', VBRet W ((kyR (byMap l) l t).getD t) (kyR (byMap l) l t).isSome e w' → ∃ sl, e = .returned (.tuple #[((kyR (byMap l) l t).getD t).agg sl, .bool (kyR (byMap l) l t).isSome]) ∧ ((kyR (byMap l) l t).getD t).wf ∧ OwnS w' (fun x => W.heap.size ≤ x) sl ((kyR (byMap l) l t).getD t).kids ∧ Below W.heap.size W w' from fun _ _ _ _ h => h)
  generalize (kyR (byMap l) l t).getD t = r at *
  generalize (kyR (byMap l) l t).isSome = b at *
  obtain ⟨sl, rfl, -, hr⟩ := h
  obtain ⟨sa, sc, rfl⟩ := hr.slice
  obtain ⟨na, nn, nc, rfl⟩ : ∃ a n c, nv = .slice a n c := by obtain ⟨a, _, _, c, h, _⟩ := hl; exact ⟨a, _, c, h⟩
  clear hr hl hE hsz hlz
  unfold V.agg at KY ⊢
  generalize t.k = k at *
  generalize t.n = n at *
  generalize t.e = e at *
  generalize t.s = s at *
  generalize t.kids.length = len at *
  go_enter Tryd.func31, Tryd.ntmps31
  go_wp2_with fail
  refine (KY.out (w.heap.size + 1) _ ((by (repeat' (first | with_reducible exact Below.refl _ _ | with_reducible refine below_alloc ?_ _ ?_ | with_reducible refine Below.setCell ?_ ?_ _ | with_reducible refine Below.drew ?_ | with_reducible refine below_drewN ?_ _ | with_reducible refine below_step ?_ (by assumption) ?_ | with_reducible refine below_mark ?_ (by assumption) ?_)); all_goals (first | omega | (simp; done) | (simp; omega)))) ?_).mono ?_
  · have := heap_alloc_new (w.alloc (.cells #[.int .i64 k, .int .i64 n, .int .i64 e, .string s, .slice sa len sc] 30)) (.cells #[.slice na nn nc] 40)
    unfold NameAt
    rw [heap_alloc_old _ _ (by simp)]
    rwa [show (w.alloc (.cells #[.int .i64 k, .int .i64 n, .int .i64 e, .string s, .slice sa len sc] 30)).heap.size = w.heap.size + 1 by simp] at this
  · rintro x w9 hret
    obtain ⟨s9, rfl, wf9, ho9, hb9⟩ := HP.out _ ((by (repeat' (first | with_reducible exact Below.refl _ _ | with_reducible refine below_alloc ?_ _ ?_ | with_reducible refine Below.setCell ?_ ?_ _ | with_reducible refine Below.drew ?_ | with_reducible refine below_drewN ?_ _ | with_reducible refine below_step ?_ (by assumption) ?_ | with_reducible refine below_mark ?_ (by assumption) ?_)); all_goals (first | omega | (simp; done) | (simp; omega)))) _ _ hret
    obtain ⟨oa, on, oc, rfl⟩ : ∃ sa sn sc, s9 = .slice sa sn sc := by obtain ⟨p, q, e⟩ := ho9.slice; exact ⟨p, _, q, e⟩
    clear hret
    unfold V.agg
    have hz9 := hb9.size
    simp at hz9
    obtain ⟨hc, hf⟩ := bcell hb9
    have HO := Lib.hid (show OwnS w9 (fun x => w.heap.size + 1 + 1 + 1 ≤ x) (.slice oa on oc) r.kids from ho9.mono (fun x hx => Nat.le_trans (by first | omega | (simp; done) | (simp; omega)) hx)); clear ho9
    go_wp2_with fail
    refine bodyPost_ret (v := .tuple #[.agg #[.int .i64 r.k, .int .i64 r.n, .int .i64 r.e, .string r.s, .slice oa on oc], .bool b]) (by simp [results, Tryd.results31, go_sem, hc, hz9]) rfl ⟨_, rfl, wf9, ?_, (by (repeat' (first | with_reducible exact Below.refl _ _ | with_reducible refine below_alloc ?_ _ ?_ | with_reducible refine Below.setCell ?_ ?_ _ | with_reducible refine Below.drew ?_ | with_reducible refine below_drewN ?_ _ | with_reducible refine below_step ?_ (by assumption) ?_ | with_reducible refine below_mark ?_ (by assumption) ?_)); all_goals (first | omega | (simp; done) | (simp; omega)))⟩
    refine OwnS.mono (F := fun x => w.heap.size + 1 + 1 + 1 ≤ x) ?_ (fun x hx => by omega)
    repeat refine OwnS.set ?_ _ _ (by first | omega | (simp; done) | (simp; omega))
    exact HO.out
end Go.Proofs.YtllngpnhhpnjoaaDoor
