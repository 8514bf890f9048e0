/- impl.walk: the nodes of a value, depth first, each handed to a function value: by an invariant of that function's own. -/
import Derived.Test.YtiemlefmhleaeaaDoorOwnV
import Derived.Test.YtiemlefmhleaeaaDoorLens
import Derived.Test.YtiemlefmhleaeaaDoorBytes
import Derived.WalkSpells
import Derived.Lib.Hide
namespace Go.Proofs.YtiemlefmhleaeaaDoor
set_option linter.unusedVariables false
set_option maxRecDepth 100000
open Go.RowKit
mutual
def V.pre : V → List V
  | .mk k n e s ks => .mk k n e s ks :: pres ks
def pres : List V → List V
  | [] => []
  | t :: ts => t.pre ++ pres ts
 end
theorem V.pre_eq (t : V) : t.pre = t :: pres t.kids := by cases t; rw [V.pre]; rfl
theorem pres_append (a b : List V) : pres (a ++ b) = pres a ++ pres b := by
  induction a with
  | nil => simp [pres]
  | cons t a ih => simp [pres, ih]
theorem pres_take (ts : List V) (k : Nat) (h : k < ts.length) : pres (ts.take (k + 1)) = pres (ts.take k) ++ (ts[k]).pre := by
  rw [List.take_succ_eq_append_getElem h, pres_append]; simp [pres]
/-- a bound that every beginning of a list keeps too -/
def wtL : List V → Nat
  | [] => 0
  | u :: us => 1 + u.kids.length + u.s.size + wtL us
theorem wtL_append (a b : List V) : wtL (a ++ b) = wtL a + wtL b := by
  induction a with
  | nil => simp [wtL]
  | cons u us ih => simp only [List.cons_append, wtL, ih]; omega
mutual
theorem wt_pre : ∀ t : V, wtL t.pre ≤ 1 + 2 * t.sz
  | .mk k n e s ks => by
    have := wt_pres ks
    simp only [V.pre, wtL, V.sz, V.kids, V.s]
    omega
theorem wt_pres : ∀ ts : List V, wtL (pres ts) + ts.length ≤ 2 * szs ts
  | [] => by simp [pres, wtL, szs]
  | t :: ts => by
    have h1 := wt_pre t
    have h2 := wt_pres ts
    simp only [pres, wtL_append, szs, List.length_cons]
    omega
 end
def Few (L : List V) : Prop := wtL L ≤ 4194304
theorem Few.of_append {L M : List V} (h : Few (L ++ M)) : Few L := by unfold Few at *; rw [wtL_append] at h; omega
theorem few_pre {t : V} (h : t.sz ≤ 1048576) : Few ([] ++ t.pre) := by unfold Few; have := wt_pre t; rw [List.nil_append]; omega
/-- the post of one yield, and of a whole walk -/
def Yields (I : List V → (Nat → Prop) → World → Prop) (A : Nat → Prop) (w : World) (L : List V) (e : Ending) (w' : World) : Prop := e = .returned (.tuple #[]) ∧ ∃ A', I L A' w' ∧ Touch A A' w w'
set_option maxHeartbeats 400000 in
theorem walk_any (w0 : World) (F : FuncId) (cap : Value) (I : List V → (Nat → Prop) → World → Prop) (hF : ∀ (args : Array Value) (w : World), (callFunc F args).run Tryd.prog w = .ok (.enter F args) w)
    (hI : ∀ L A w w', I L A w → Below w.heap.size w w' → I L A w') (hA : ∀ L A w, I L A w → ∀ x, A x → w0.heap.size ≤ x ∧ x < w.heap.size)
    (hY : ∀ (u : V) (sl : Value) (L : List V) (A : Nat → Prop) (w : World), u.wf → RepS w0 sl u.kids → I L A w → Below w0.heap.size w0 w → Few (L ++ [u]) → Calls Tryd.prog F #[u.agg sl, cap] w (Yields I A w (L ++ [u])))
    (v : Value) (ts : List V) (h : RepS w0 v ts) : ∀ (u : V), u.kids = ts → u.wf → ∀ (L : List V) (A : Nat → Prop) (w : World), I L A w → Below w0.heap.size w0 w → Few (L ++ u.pre) →
      Calls Tryd.prog 185 #[u.agg v, .func (.func F) #[] #[cap]] w (Yields I A w (L ++ u.pre)) := by
  have HI := Lib.hid hI; have HY := Lib.hid hY; have HAA := Lib.hid hA
  clear hI hY hA
  induction h with
  | mk a b off cap0 ts sls ha hc hm hbb cells wfs kids ih =>
  intro u huk uwf L A w hiw hw hfew
  have hrep := RepS.mk a b off cap0 ts sls ha hc hm hbb cells wfs kids
  rw [← huk] at hrep
  have Y1 := Lib.hid (fun w'' (hh : Below w.heap.size w w'') => HY.out u _ L A w'' uwf hrep (HI.out L A w w'' hiw hh) (below_step hw hh (Nat.le_refl _)) (by rw [V.pre_eq, show L ++ u :: pres u.kids = (L ++ [u]) ++ pres u.kids by simp] at hfew; exact hfew.of_append))
  have HP := Lib.hid (show L ++ u.pre = L ++ [u] ++ pres ts by rw [V.pre_eq, huk]; simp)
  have HFEW := Lib.hid hfew; clear hfew
  have IH := Lib.hid ih; have CC := Lib.hid cells; have WF := Lib.hid wfs; have HA := Lib.hid ha; have HIW := Lib.hid hiw; have KK := Lib.hid kids
  have hlen : ts.length ≤ 9223372036854775807 := by omega
  clear ih cells wfs kids ha hrep uwf hc hm hiw
  rw [huk] at Y1
  clear huk
  unfold V.agg at Y1 ⊢
  generalize u.k = vk at *
  generalize u.n = vn at *
  generalize u.e = ve at *
  generalize u.s = vs at *
  go_enter Tryd.func185, Tryd.ntmps185
  go_wp2_with fail
  refine (Y1.out _ (by (repeat' (first | with_reducible exact Below.refl _ _ | with_reducible refine below_alloc ?_ _ ?_ | with_reducible refine Below.setCell ?_ ?_ _ | with_reducible refine Below.drew ?_ | with_reducible refine below_drewN ?_ _ | with_reducible refine below_step ?_ (by assumption) ?_ | with_reducible refine below_mark ?_ (by assumption) ?_)); all_goals (first | omega | (simp; done) | (simp; omega)))).mono ?_
  rintro e1 w1 ⟨rfl, A1, hi1, ht1⟩
  have hz1 := ht1.size
  simp at hz1
  have hnA : ¬ A w.heap.size := fun e => by have := (HAA.out L A w HIW.out _ e).2; omega
  have hblk := ht1.block w.heap.size (by simp) hnA
  have hcb : w1.cell? ⟨w.heap.size, 4, none⟩ = some (.slice a ts.length cap0) := by
    rw [World.cell?_of_block (a := ⟨w.heap.size, 4, none⟩) hblk]; simp
  have HT1 := Lib.hid ht1
  have HI1 := Lib.hid hi1
  clear ht1 hi1 hblk
  go_wp2_with fail
  have HTW := Lib.hid ((Touch.of_below (A := A) (((Below.refl w.heap.size w).alloc (Nat.le_refl _) _))).trans HT1.out)
  clear hcb
  go_loopw [12, 5] (fun i _ wr => ∃ k : Nat, ∃ A' : Nat → Prop, k ≤ ts.length ∧ i = .int .i64 k ∧ I (L ++ [u] ++ pres (ts.take k)) A' wr ∧ Touch A A' w wr) (fun i _ _ => ts.length - (intOf i).toNat)
  case atStart => exact ⟨0, A1, by omega, rfl, by simpa [pres] using HI1.out, HTW.out⟩
  case round =>
    obtain ⟨k, A', hk, rfl, hik, htk⟩ := hrel
    have hbk : Below w0.heap.size w0 wr := hw.trans (htk.below (fun x hx => (HAA.out L A w HIW.out x hx).1) hw.size)
    have HIK := Lib.hid hik; have HTK := Lib.hid htk
    clear hik htk
    by_cases hlt : k < ts.length
    · have hne : ts ≠ [] := by intro e; rw [e] at hlt; simp at hlt
      obtain rfl := HA.out hne
      have hbw := hbb hne
      obtain ⟨c0, c1, c2, c3, c4⟩ := (CC.out k hlt).keep (hbk.block b hbw)
      have V1 := Lib.hid (fun w'' (hh : Below wr.heap.size wr w'') => IH.out k hlt ts[k] rfl (WF.out k hlt) (L ++ [u] ++ pres (ts.take k)) A' w'' (HI.out _ _ _ _ HIK.out hh) (below_step hbk hh (Nat.le_refl _)) (by have := HFEW.out; rw [HP.out, ← List.take_append_drop (k + 1) ts, pres_append, ← List.append_assoc, pres_take ts k hlt, ← List.append_assoc] at this; exact this.of_append))
      obtain ⟨a3, cap3, hs3⟩ := (KK.out k hlt).slice
      rw [hs3] at c4 V1
      have HX := Lib.hid (pres_take ts k hlt)
      unfold V.agg at V1
      clear hbk hs3
      generalize ts[k].k = xk at *
      generalize ts[k].n = xn at *
      generalize ts[k].e = xe at *
      generalize ts[k].s = xs at *
      go_wp2_with fail
      refine (V1.out _ (by (repeat' (first | with_reducible exact Below.refl _ _ | with_reducible refine below_alloc ?_ _ ?_ | with_reducible refine Below.setCell ?_ ?_ _ | with_reducible refine Below.drew ?_ | with_reducible refine below_drewN ?_ _ | with_reducible refine below_step ?_ (by assumption) ?_ | with_reducible refine below_mark ?_ (by assumption) ?_)); all_goals (first | omega | (simp; done) | (simp; omega)))).mono ?_
      rintro e2 w2 ⟨rfl, A2, hi2, ht2⟩
      have HI2 := Lib.hid hi2; have HT2 := Lib.hid ht2; clear hi2 ht2
      go_wp2_with fail
      go_roundw
      case rel =>
        refine ⟨k + 1, A2, by omega, by go_num, by rw [HX.out, ← List.append_assoc]; exact HI2.out, ?_⟩
        refine HTK.out.trans (Touch.trans (Touch.of_below ?_) HT2.out)
        exact (by (repeat' (first | with_reducible exact Below.refl _ _ | with_reducible refine below_alloc ?_ _ ?_ | with_reducible refine Below.setCell ?_ ?_ _ | with_reducible refine Below.drew ?_ | with_reducible refine below_drewN ?_ _ | with_reducible refine below_step ?_ (by assumption) ?_ | with_reducible refine below_mark ?_ (by assumption) ?_)); all_goals (first | omega | (simp; done) | (simp; omega)))
      case measure => simp [intOf]; omega
    · have hkl : k = ts.length := by omega
      subst hkl
      clear hbk
      go_wp2_with fail
      go_end0
      refine ⟨rfl, A', ?_, HTK.out⟩
      rw [HP.out]
      simpa using HIK.out
end Go.Proofs.YtiemlefmhleaeaaDoor
