/- For every text the program's Loose and the reference's return the same value and truth, in memory of their own: the law returns true. -/
import Derived.Test.YtiemlefmhleaeaaDoorLawAid
import Derived.Test.YtiemlefmhleaeaaDoorMarks
import Derived.Test.YtiemlefmhleaeaaDoorMarkV
import Derived.Test.YtiemlefmhleaeaaDoorSzVal
import Derived.Test.YtiemlefmhleaeaaDoorToVal
import Derived.Test.YtiemlefmhleaeaaDoorEqVal
import Derived.Test.YtiemlefmhleaeaaDoorNames
import Derived.Test.YtiemlefmhleaeaaDoorEnv
import Derived.Test.YtiemlefmhleaeaaDoorTie
import Derived.Test.YtiemlefmhleaeaaDoorCards
import Derived.PinnedBridge
import Derived.Lay
import Derived.LaidOnce
import Derived.SevenTiedAt
import Derived.Lib.LaidU8T
import Derived.Lib.LaidIn
import Derived.Test.YtiemlefmhleaeaaDoorCdV
import Derived.Deep.RegionWith
import Derived.Deep.DeepCutAuto
namespace Go.Proofs.YtiemlefmhleaeaaDoor
set_option linter.unusedVariables false
set_option maxRecDepth 100000
open Go.RowKit
theorem Box.over {w w' : World} {F : Nat → Prop} {b : Nat} {k n e : Int} {s : ByteArray} {sl : Value} {T : TypeId} (h : Box w b k n e s sl T) (ht : Touch F F w w') (hn : ¬ F b) : Box w' b k n e s sl T :=
  (ht.block b h.lt hn).trans h
theorem touch_of_grown {w w' : World} {v : Value} (h : w.grownBy w' v.ownBlock) : Touch (fun x => v.ownBlock = some x) (fun x => v.ownBlock = some x) w w' :=
  ⟨h.os, h.tape, h.output, h.size, fun k hk hn => h.block k hk (fun e => hn e.symm), fun k hk => .inl hk⟩
theorem SRow.stay2 {w w' : World} {base : Nat} {v : Value} {l : List ByteArray} (h : SRow w base v l) (hb : Below w.heap.size w w') : SRow w' base v l :=
  h.keep (fun x hx => hb.block x (h.lt x hx).2)
theorem cnts_kids_le {t : V} (h : t.sz ≤ 1048576) : cnts t.kids ≤ 4194304 := by have h1 := cnts_sz t.kids; have h2 := V.sz_eq t; omega
theorem cnts_list_le {ts : List V} (h : szs ts ≤ 1048576) : cnts ts ≤ 4194304 := by have h1 := cnts_sz ts; omega
theorem szr_ok {L : Int} {n : Nat} (h : ¬ szr L n < 0) : (n : Int) ≤ L ∧ szr L n ≤ L := by unfold szr at *; split at h <;> omega
end Go.Proofs.YtiemlefmhleaeaaDoor
namespace Go.Proofs.YtiemlefmhleaeaaDoor
set_option linter.unusedVariables false
set_option maxRecDepth 100000
open Go.RowKit Go.Lib Go.Shelf
theorem accept_eq : Rows.laid_unicode_utf8_acceptRanges = Lib.acceptData := by kernel_rfl
theorem first_eq : Rows.laid_unicode_utf8_first = Lib.firstData := Pinned.utf8First_eq
theorem env_of {w : World} (h3 : VarReads Tryd.prog w "unicode/utf8.first" Rows.laid_unicode_utf8_first) (h4 : VarReads Tryd.prog w "unicode/utf8.acceptRanges" Rows.laid_unicode_utf8_acceptRanges) : Env w := by
  rw [accept_eq] at h4
  rw [first_eq] at h3
  exact utf8Tabs_of_readsT (U8Types.of196 Tryd.laysValid) ⟨by kernel_rfl, by kernel_rfl, by kernel_rfl, by kernel_rfl, by kernel_rfl, by kernel_rfl, by kernel_rfl⟩ h3 h4
end Go.Proofs.YtiemlefmhleaeaaDoor
namespace Go.Proofs.YtiemlefmhleaeaaDoor
set_option linter.unusedVariables false
set_option maxRecDepth 100000
open Go.ChangeShapes Go.WideShapes Go.ChangeAt Go.RowKit Go.Lib
open Go.ChangeMaps (open_string shut_string)
def BRet3 (w : World) (t : V) (b : Bool) (e : Ending) (w' : World) : Prop := ∃ sl, e = .returned (.tuple #[t.agg sl, .bool b]) ∧ t.wf ∧ OwnS w' (fun x => w.heap.size ≤ x) sl t.kids ∧ Below w.heap.size w w'
theorem Loose_spec (w0 : World) (s : ByteArray) (hs : s.size ≤ 1048576) (w : World) (hw : Below w0.heap.size w0 w) :
    Calls Tryd.prog 30 #[.string s] w (BRet3 w (looseR2 s).1 (looseR2 s).2) := Loose_spec0 w0 s hs w hw
theorem Loose_impl (w0 : World) (s : ByteArray) (hs : s.size ≤ 1048576) (w : World) (hw : Below w0.heap.size w0 w) (hE : Env w0) :
    Calls Tryd.prog 31 #[.string s] w (BRet3 w (looseR2 s).1 (looseR2 s).2) := Loose_impl0 w0 s hs w hw hE
theorem looseR2_sz {s : ByteArray} (hs : s.size ≤ 1048576) : (looseR2 s).1.sz ≤ 1048576 := by
  have hz : VZ.sz ≤ 1048576 := by simp [VZ, V.sz, szs, ByteArray.size]
  unfold looseR2
  split
  · cases h : cg true true s 15 0 1204 with
    | none => exact hz
    | some q =>
      obtain ⟨v, j, m⟩ := q
      have hg := cg_good hs 15 0 1204 v j m h
      show (if _ then _ else _ : V × Bool).1.sz ≤ _
      split
      · show v.sz ≤ _; omega
      · exact hz
  · exact hz
set_option maxHeartbeats 8000000 in
theorem walkS_FnExactLoose {w00 : World} (t0 : ByteArray) (hv0 : t0.size ≤ 1048576) (w : World) (hww : w = w00) (hE : Env w) : Calls Tryd.prog 7 #[.string t0] w (LawRet w) := by
  subst hww
  have tz0 : decide ((1048576 : Int) < (t0.size : Int)) = false := decide_eq_false (by omega)
  have KS := Lib.hid (fun w1  => Loose_spec w1 t0 hv0 w1 (Below.refl _ _))
  have KI := Lib.hid (fun w1  (hh : Below w.heap.size w w1) => Loose_impl w1 t0 hv0 w1 (Below.refl _ _) (Env.keep hE hh))
  clear hE
  have HR0 := Lib.hid (cnts_kids_le (looseR2_sz hv0))
  generalize (looseR2 t0).1 = r0 at *
  generalize (looseR2 t0).2 = r1 at *
  go_enter Tryd.func7, Tryd.ntmps7
  go_wp2_with fail
  have hHR0 := HR0.out
  refine (KS.out _ ).mono ?_
  rintro e1 w1 ⟨qs0, rfl, qf0, qo0, hb1⟩
  have hz1 := hb1.size; try simp at hz1
  obtain ⟨qa0, qc0, rfl⟩ := qo0.slice
  have qR0 := Lib.hid (show Rep w1 (r0.agg (.slice qa0 r0.kids.length qc0)) r0 from ⟨_, rfl, qf0, qo0.rep⟩)
  clear qo0
  unfold V.agg at qR0 ⊢
  have BQ0_n := Lib.hid (Box.new w1 r0.k r0.n r0.e r0.s (.slice qa0 r0.kids.length qc0) 28)
  go_wp2_with fail
  refine (KI.out _ ?_).mono ?_
  · exact (by (with_reducible (repeat' (first | exact Below.refl _ _ | refine below_alloc ?_ _ ?_ | refine Below.setCell ?_ ?_ _ | refine Below.drew ?_ | refine below_drewN ?_ _ | refine below_step ?_ (by assumption) ?_ | refine below_mark ?_ (by assumption) ?_))); all_goals (first | omega | (simp; done) | (simp; omega)))
  rintro e2 w2 ⟨gs0, rfl, gf0, go0, hb2⟩
  have hz2 := hb2.size; try simp at hz2
  obtain ⟨ga0, gc0, rfl⟩ := go0.slice
  have gR0 := Lib.hid (show Rep w2 (r0.agg (.slice ga0 r0.kids.length gc0)) r0 from ⟨_, rfl, gf0, go0.rep⟩)
  have gO0 := Lib.hid go0.bound
  clear go0
  unfold V.agg at gR0 ⊢
  have BG0_n := Lib.hid (Box.new w2 r0.k r0.n r0.e r0.s (.slice ga0 r0.kids.length gc0) 28)
  have tn1 : (r1 != r1) = false := by simp
  have BQ0_2 := Lib.hid (Box.stay BQ0_n.out (w' := w2) (by (with_reducible (repeat' (first | exact Below.refl _ _ | refine below_alloc ?_ _ ?_ | refine Below.setCell ?_ ?_ _ | refine Below.drew ?_ | refine below_drewN ?_ _ | refine below_step ?_ (by assumption) ?_ | refine below_mark ?_ (by assumption) ?_))); all_goals (first | omega | (simp; done) | (simp; omega))))
  obtain ⟨cBQ02_0, cBQ02_1, cBQ02_2, cBQ02_3, cBQ02_4⟩ := BQ0_2.out.cells
  have hnq2 : w1.heap.size < w2.heap.size := by omega
  have hnr2 : w1.heap.size ≠ w2.heap.size := by omega
  go_wp2_with fail
  clear cBQ02_0 cBQ02_1 cBQ02_2 cBQ02_3 cBQ02_4
  refine (eq_any _ _ _ r0 (gR0.out.keep (by (with_reducible (repeat' (first | exact Below.refl _ _ | refine below_alloc ?_ _ ?_ | refine Below.setCell ?_ ?_ _ | refine Below.drew ?_ | refine below_drewN ?_ _ | refine below_step ?_ (by assumption) ?_ | refine below_mark ?_ (by assumption) ?_))); all_goals (first | omega | (simp; done) | (simp; omega)))) (qR0.out.keep (by (with_reducible (repeat' (first | exact Below.refl _ _ | refine below_alloc ?_ _ ?_ | refine Below.setCell ?_ ?_ _ | refine Below.drew ?_ | refine below_drewN ?_ _ | refine below_step ?_ (by assumption) ?_ | refine below_mark ?_ (by assumption) ?_))); all_goals (first | omega | (simp; done) | (simp; omega)))) _ (Below.refl _ _)).mono ?_
  rintro e3 w3 ⟨rfl, hb3⟩
  have hz3 := hb3.size; try simp at hz3
  have BG0_3 := Lib.hid (Box.stay BG0_n.out (w' := w3) (by (with_reducible (repeat' (first | exact Below.refl _ _ | refine below_alloc ?_ _ ?_ | refine Below.setCell ?_ ?_ _ | refine Below.drew ?_ | refine below_drewN ?_ _ | refine below_step ?_ (by assumption) ?_ | refine below_mark ?_ (by assumption) ?_))); all_goals (first | omega | (simp; done) | (simp; omega))))
  obtain ⟨cBG03_0, cBG03_1, cBG03_2, cBG03_3, cBG03_4⟩ := BG0_3.out.cells
  go_wp2_with fail
  have GB := Lib.hid (gO0.out.keep (w' := w3) (fun x hx hxs => (show Below w2.heap.size w2 w3 by exact (by (with_reducible (repeat' (first | exact Below.refl _ _ | refine below_alloc ?_ _ ?_ | refine Below.setCell ?_ ?_ _ | refine Below.drew ?_ | refine below_drewN ?_ _ | refine below_step ?_ (by assumption) ?_ | refine below_mark ?_ (by assumption) ?_))); all_goals (first | omega | (simp; done) | (simp; omega)))).block x hxs))
  clear cBG03_0 cBG03_1 cBG03_2 cBG03_3 cBG03_4
  refine (mark_value r0 _ _ 1 _ GB.out (by omega) (by omega)).mono ?_
  rintro e4 w4 ⟨rfl, ho4, ht4⟩
  have HT4 := Lib.hid ht4; have HM := Lib.hid ho4.rep; clear ho4 ht4
  have hb4 : Below w1.heap.size w3 w4 := HT4.out.below (fun x hx => by have h1 := hx.1; (first | omega | (simp at h1; done) | (simp at h1; omega))) (by omega)
  have hz4 := HT4.out.size; try simp at hz4
  have BQ0_4 := Lib.hid (Box.over (Box.stay BQ0_2.out (w' := w3) (by (with_reducible (repeat' (first | exact Below.refl _ _ | refine below_alloc ?_ _ ?_ | refine Below.setCell ?_ ?_ _ | refine Below.drew ?_ | refine below_drewN ?_ _ | refine below_step ?_ (by assumption) ?_ | refine below_mark ?_ (by assumption) ?_))); all_goals (first | omega | (simp; done) | (simp; omega)))) HT4.out (fun hx => by have h1 := hx.1; have h2 := hx.2; first | omega | (simp at h1 h2; done) | (simp at h1; done) | (simp at h1; omega) | (simp at h2; omega) | (simp at h1 h2; omega)))
  have BG0_4 := Lib.hid (Box.over (Box.stay BG0_3.out (w' := w3) (by (with_reducible (repeat' (first | exact Below.refl _ _ | refine below_alloc ?_ _ ?_ | refine Below.setCell ?_ ?_ _ | refine Below.drew ?_ | refine below_drewN ?_ _ | refine below_step ?_ (by assumption) ?_ | refine below_mark ?_ (by assumption) ?_))); all_goals (first | omega | (simp; done) | (simp; omega)))) HT4.out (fun hx => by have h1 := hx.1; have h2 := hx.2; first | omega | (simp at h1 h2; done) | (simp at h1; done) | (simp at h1; omega) | (simp at h2; omega) | (simp at h1 h2; omega)))
  have t1 : ((1 + (cnts r0.kids : Nat) : Int) != (1 + (cnts r0.kids : Nat) : Int)) = false := by simp
  have t2 : decide ((1 + (cnts r0.kids : Nat) : Int) < 0) = false := by simp; omega
  have BG0_4 := Lib.hid (Box.stay BG0_4.out (w' := w4) (by (with_reducible (repeat' (first | exact Below.refl _ _ | refine below_alloc ?_ _ ?_ | refine Below.setCell ?_ ?_ _ | refine Below.drew ?_ | refine below_drewN ?_ _ | refine below_step ?_ (by assumption) ?_ | refine below_mark ?_ (by assumption) ?_))); all_goals (first | omega | (simp; done) | (simp; omega))))
  obtain ⟨cBG04_0, cBG04_1, cBG04_2, cBG04_3, cBG04_4⟩ := BG0_4.out.cells
  go_wp2_with fail
  clear cBG04_0 cBG04_1 cBG04_2 cBG04_3 cBG04_4
  refine (held_value _ r0 _ 1 _ HM.out (by (with_reducible (repeat' (first | exact Below.refl _ _ | refine below_alloc ?_ _ ?_ | refine Below.setCell ?_ ?_ _ | refine Below.drew ?_ | refine below_drewN ?_ _ | refine below_step ?_ (by assumption) ?_ | refine below_mark ?_ (by assumption) ?_))); all_goals (first | omega | (simp; done) | (simp; omega))) _ _ _ _ (by omega) (by omega)).mono ?_
  rintro e5 w5 ⟨rfl, hb5⟩
  have hz5 := hb5.size; try simp at hz5
  go_wp2_with fail
  refine (KI.out _ ?_).mono ?_
  · exact (by (with_reducible (repeat' (first | exact Below.refl _ _ | refine below_alloc ?_ _ ?_ | refine Below.setCell ?_ ?_ _ | refine Below.drew ?_ | refine below_drewN ?_ _ | refine below_step ?_ (by assumption) ?_ | refine below_mark ?_ (by assumption) ?_))); all_goals (first | omega | (simp; done) | (simp; omega)))
  rintro e6 w6 ⟨hs0, rfl, hf0, ho0, hb6⟩
  have hz6 := hb6.size; try simp at hz6
  obtain ⟨ha0, hc0, rfl⟩ := ho0.slice
  have hR0 := Lib.hid (show Rep w6 (r0.agg (.slice ha0 r0.kids.length hc0)) r0 from ⟨_, rfl, hf0, ho0.rep⟩)
  have hO0 := Lib.hid ho0.bound
  clear ho0
  unfold V.agg at hR0 ⊢
  have BQ0_6 := Lib.hid (Box.stay BQ0_4.out (w' := w6) (by (with_reducible (repeat' (first | exact Below.refl _ _ | refine below_alloc ?_ _ ?_ | refine Below.setCell ?_ ?_ _ | refine Below.drew ?_ | refine below_drewN ?_ _ | refine below_step ?_ (by assumption) ?_ | refine below_mark ?_ (by assumption) ?_))); all_goals (first | omega | (simp; done) | (simp; omega))))
  obtain ⟨cBQ06_0, cBQ06_1, cBQ06_2, cBQ06_3, cBQ06_4⟩ := BQ0_6.out.cells
  have hnq6 : w1.heap.size < w6.heap.size := by omega
  have hnr6 : w1.heap.size ≠ w6.heap.size := by omega
  go_wp2_with fail
  clear cBQ06_0 cBQ06_1 cBQ06_2 cBQ06_3 cBQ06_4
  refine (eq_any _ _ _ r0 (hR0.out.keep (by (with_reducible (repeat' (first | exact Below.refl _ _ | refine below_alloc ?_ _ ?_ | refine Below.setCell ?_ ?_ _ | refine Below.drew ?_ | refine below_drewN ?_ _ | refine below_step ?_ (by assumption) ?_ | refine below_mark ?_ (by assumption) ?_))); all_goals (first | omega | (simp; done) | (simp; omega)))) (qR0.out.keep (by (with_reducible (repeat' (first | exact Below.refl _ _ | refine below_alloc ?_ _ ?_ | refine Below.setCell ?_ ?_ _ | refine Below.drew ?_ | refine below_drewN ?_ _ | refine below_step ?_ (by assumption) ?_ | refine below_mark ?_ (by assumption) ?_))); all_goals (first | omega | (simp; done) | (simp; omega)))) _ (Below.refl _ _)).mono ?_
  rintro e7 w7 ⟨rfl, hb7⟩
  have hz7 := hb7.size; try simp at hz7
  have BG0_7 := Lib.hid (Box.stay BG0_4.out (w' := w7) (by (with_reducible (repeat' (first | exact Below.refl _ _ | refine below_alloc ?_ _ ?_ | refine Below.setCell ?_ ?_ _ | refine Below.drew ?_ | refine below_drewN ?_ _ | refine below_step ?_ (by assumption) ?_ | refine below_mark ?_ (by assumption) ?_))); all_goals (first | omega | (simp; done) | (simp; omega))))
  obtain ⟨cBG07_0, cBG07_1, cBG07_2, cBG07_3, cBG07_4⟩ := BG0_7.out.cells
  go_wp2_with fail
  clear cBG07_0 cBG07_1 cBG07_2 cBG07_3 cBG07_4
  refine (held_value _ r0 _ 1 _ HM.out (by (with_reducible (repeat' (first | exact Below.refl _ _ | refine below_alloc ?_ _ ?_ | refine Below.setCell ?_ ?_ _ | refine Below.drew ?_ | refine below_drewN ?_ _ | refine below_step ?_ (by assumption) ?_ | refine below_mark ?_ (by assumption) ?_))); all_goals (first | omega | (simp; done) | (simp; omega))) _ _ _ _ (by omega) (by omega)).mono ?_
  rintro e8 w8 ⟨rfl, hb8⟩
  have hz8 := hb8.size; try simp at hz8
  go_wp2_with fail
  go_ret
  exact ⟨rfl, (by (with_reducible (repeat' (first | exact Below.refl _ _ | refine below_alloc ?_ _ ?_ | refine Below.setCell ?_ ?_ _ | refine Below.drew ?_ | refine below_drewN ?_ _ | refine below_step ?_ (by assumption) ?_ | refine below_mark ?_ (by assumption) ?_))); all_goals (first | omega | (simp; done) | (simp; omega)))⟩
theorem walk_FnExactLoose {w00 : World} (t0 : ByteArray) (hv00 : t0.size ≤ maxLen) (w : World) (hww : w = w00) (hE : Env w) : Calls Tryd.prog 7 #[.string t0] w (LawRet w) := by
  by_cases hb0 : t0.size ≤ 1048576
  · exact walkS_FnExactLoose t0 hb0 w hww hE
  · subst hww
    have hv0 : t0.size ≤ 9223372036854775807 := by simpa [maxLen] using hv00
    have tz : decide ((1048576 : Int) < (t0.size : Int)) = true := decide_eq_true (by omega)
    go_enter Tryd.func7, Tryd.ntmps7
    go_wp2_with fail
    go_ret
    exact ⟨rfl, Below.refl _ _⟩
set_option maxRecDepth 100000 in
set_option maxHeartbeats 2000000 in
theorem lifted_FnExactLoose (os : Os) (started : os.Started) (H : Type) (enc : TypeId × Value → H) :
    ReturnsInHanded {} Tryd.checked os 7 .any (fun w args => (Rows.fnExactLooseSpec.pre enc Tryd.prog Tryd.f7 [] false w args ∧ laidMetH Tryd.prog Rows.fnExactLooseRow.laid w) ∧ sizedMet enc Tryd.prog Tryd.f7 (OpenSpec.ofChange Rows.fnExactLooseSpec) false w args)
      (Rows.fnExactLooseSpec.post enc Tryd.prog Tryd.f7 false true false false) := by
  refine returnsInHanded_of_change_and (C := Tryd.checked) (X := fun w _ => laidMetH Tryd.prog Rows.fnExactLooseRow.laid w) (fun _ _ _ hh h => h.of_heap hh) lawOwn started (by kernel_rfl) Tryd.func7
    (ChangeSpec.witness_shaped (enc := enc) (C := Tryd.checked) (os := os) (X := fun w _ => laidMetH Tryd.prog Rows.fnExactLooseRow.laid w) false (World.laidAll Tryd.prog os Rows.fnExactLooseRow.laid) #[.string ByteArray.empty] 8 (World.laidAll_os _ _ _)
      (World.shaped_of_ZipB (by kernel_rfl) (by kernel_rfl)) (by kernel_rfl) (by kernel_rfl) (by kernel_rfl)
      (by rw [MakeChecks.laidMetH_plain _ _ _ (by kernel_rfl)]; exact laidMet_laidAll _ (by kernel_rfl) (by kernel_rfl))) ?_
  intro W base args ds gs before hval0 hW _ _ hL _
  have hval : ∀ (j : Nat) t v, Tryd.f7.params[j]? = some t → args[j]? = some v → Value.okWide Tryd.prog W .any base t v := hval0
  have hW' := hW
  obtain ⟨p, q, hA0, hV, hpq, hfz, hnd⟩ := hW
  have hA : DataW.TrodAll enc Tryd.prog W 0 (fun _ => true) true Tryd.f7.params.toList args.toList ds p := hA0
  rw [Tryd.params7] at hA hval
  rw [MakeChecks.laidMetH_plain _ _ _ (by kernel_rfl)] at hL
  have hE : Env W := env_of (Lib.laidMet.reads hL (.tail _ (.head _))) (Lib.laidMet.reads hL (.head _))
  obtain ⟨v0, vs0, d0, ds0, p0, q0, hargs, rfl, hp, h0, r0⟩ := trodAll_cons hA
  obtain ⟨rfl, rfl, rfl⟩ := trodAll_nil r0
  obtain rfl : args = #[v0] := by cases args; simp_all
  obtain ⟨a0, rfl, rfl, rfl, w0⟩ := open_string Tryd.underlying9 (hval 0 9 v0 rfl rfl) h0
  refine (walk_FnExactLoose a0 w0 W rfl hE).mono fun e W' ⟨he, hb⟩ => ?_
  subst he
  refine ⟨_, rfl, law_post rfl rfl rfl ?_ hW' hb⟩
  rw [Tryd.params7]
  intro t ht
  obtain rfl := List.mem_singleton.1 ht
  exact ⟨by kernel_rfl, of_decide_eq_true (by kernel_rfl)⟩
set_option maxHeartbeats 4000000 in
theorem row_FnExactLoose : Rows.FnExactLooseSaid :=
  OpenClaim.holds_of_wide 7 Tryd.f7 rfl rfl rfl rfl rfl rfl rfl ⟨rfl, rfl, rfl, rfl, rfl⟩ rfl rfl rfl rfl rfl (by as_aux_lemma => kernel_rfl) Tryd.func7 (by as_aux_lemma => kernel_rfl)
    (of_decide_eq_true (by as_aux_lemma => kernel_rfl)) (by unfold Func.isWrapper; first | (rw [if_pos (by decide +kernel)]; kernel_rfl) | (rw [if_neg (by decide +kernel)]; exact ⟨rfl, rfl⟩))
    (fun os started H enc _ => lifted_FnExactLoose os started H enc)
set_option maxHeartbeats 4000000 in
/-- THE STATEMENT -/
theorem holds_FnExactLooseCard : Rows.FnExactLooseCardSaid :=
  Claim7.holds_tied_plain_at .later [] [.data, .pinned] true (true, "b60840f14b9675725a7269d78c136b638806e2d6dbbee350c7212ba12e8adb3a") false row_FnExactLoose (fun _ h => by cases h) (by as_aux_lemma => kernel_rfl) (fun _ h => by cases h) fnExactLoose_row_tie rfl ⟨rfl, rfl⟩ (by as_aux_lemma => kernel_rfl) rfl
    (fun f fn hf hfn => by
      obtain rfl : f = 7 := Option.some.inj ((show Tryd.prog.funcNamed "loop.example/g00421/laws.FnExactLoose" = some 7 by as_aux_lemma => kernel_rfl).symm.trans hf) |>.symm
      obtain rfl : fn = Tryd.f7 := (Option.some.inj (Tryd.func7.symm.trans hfn)).symm
      exact ⟨by as_aux_lemma => kernel_rfl, fun j t ht => by
        have hm : t ∈ Tryd.f7.params.toList := by simpa using Array.mem_of_getElem? ht
        have hall : (Tryd.f7.params.toList.all fun u => !Tryd.prog.wantsStandIn u) = true := by as_aux_lemma => kernel_rfl
        exact (show Tryd.prog.wantsStandIn t = false by simpa using List.all_eq_true.1 hall t hm)⟩)
    (by as_aux_lemma => kernel_rfl)
#print axioms holds_FnExactLooseCard
end Go.Proofs.YtiemlefmhleaeaaDoor
