/- The program's references resolved: a value under way beside a memory, its kids shared with older memory. The program's references resolved: impl.memory.grown. The program's GetRefs. -/
import Derived.Test.YtiemlefmhleaeaaDoorPutR
import Derived.Deep.QuietTactic
import Derived.BigQuiet
import Derived.Test.YtiemlefmhleaeaaDoorGetR
namespace Go.Proofs.YtiemlefmhleaeaaDoor
set_option linter.unusedVariables false
set_option maxRecDepth 100000
open Go.RowKit
theorem RepF.set5 {w : World} {F : Nat → Prop} {v : Value} {ts : List V} (h : RepF w F v ts) (c : Nat) (hc : ¬ F c) (v0 v1 v2 v3 v4 : Value) : RepF (Go.Proofs.YtiemlefmhleaeaaDoor.set5 w c v0 v1 v2 v3 v4) F v ts :=
  h.keep (by rw [size_set5]; exact Nat.le_refl _) (fun x hx _ => heap_set5 _ _ _ _ _ _ _ _ (fun e => hc (e ▸ hx)))
/-- as MemRet; what the kids own lies in old memory (below s0) or in new blocks, apart from the memory -/
def MemRetF (s0 B m : Nat) (om : Value) (w : World) (r : V × (List V × Bool)) (e : Ending) (w' : World) : Prop :=
  ∃ sl om', e = .returned (r.1.agg sl) ∧ r.1.wf ∧ RepF w' (fun x => (x < s0 ∨ w.heap.size ≤ x) ∧ ¬ ownM m om' x) sl r.1.kids ∧ MOf B m r.2.1 r.2.2 om' w' ∧ Touch (ownM m om) (ownM m om') w w'
structure KAccF (s0 : Nat) (w W : World) (b B m : Nat) (k n e : Int) (s : ByteArray) (us : List V) (o : Value) (G : Nat → Prop) (S : List V × Bool) (om0 om : Value) : Prop where
  box : Box W b k n e s o 28
  rows : PRow W (b + 1) G o us
  rng : ∀ x, G x → x < s0 ∨ b + 1 ≤ x
  mem : MOf B m S.1 S.2 om W
  sep : ∀ x, ownM m om x → x ≠ b ∧ ¬ G x ∧ o.ownBlock ≠ some x
  touch : Touch (fun x => x = b ∨ ownM m om0 x) (fun x => x = b ∨ ownM m om x) w W
  hwb : w.heap.size = b + 1
  hs0 : s0 ≤ b
theorem KAccF.stay {s0 : Nat} {w W W' : World} {b B m : Nat} {k n e : Int} {s : ByteArray} {us : List V} {o : Value} {G : Nat → Prop} {S : List V × Bool} {om0 om : Value} (h : KAccF s0 w W b B m k n e s us o G S om0 om) (hb : Below W.heap.size W W') : KAccF s0 w W' b B m k n e s us o G S om0 om :=
  ⟨h.box.stay hb, h.rows.stay hb, h.rng, h.mem.stay hb, h.sep, h.touch.trans (Touch.of_below hb), h.hwb, h.hs0⟩
theorem KAccF.over {s0 : Nat} {w W W' : World} {b B m : Nat} {k n e : Int} {s : ByteArray} {us : List V} {o : Value} {G : Nat → Prop} {S S' : List V × Bool} {om0 om om' : Value} (h : KAccF s0 w W b B m k n e s us o G S om0 om)
    (ht : Touch (ownM m om) (ownM m om') W W') (hm : MOf B m S'.1 S'.2 om' W') : KAccF s0 w W' b B m k n e s us o G S' om0 om' := by
  have hl := h.box.lt
  refine ⟨(ht.block b hl (fun e => (h.sep b e).1 rfl)).trans h.box, h.rows.keep ht.size (fun x hx hs => ?_), h.rng, hm, fun x hx => ?_, h.touch.trans ⟨ht.os, ht.tape, ht.output, ht.size, fun x hx hn => ht.block x hx (fun e => hn (.inr e)), fun x hx => hx.elim (fun e => .inl (.inl e)) (fun e => (ht.new x e).imp .inr id)⟩, h.hwb, h.hs0⟩
  · refine ht.block x hs (fun e => ?_)
    have := h.sep x e
    rcases hx with hx | hx
    · exact this.2.1 hx
    · exact this.2.2 hx
  · rcases ht.new x hx with h1 | h1
    · exact h.sep x h1
    · exact ⟨by omega, fun hG => by have := h.rows.inG x hG; omega, fun e => by have := (h.rows.lt x e).2; omega⟩
theorem KAccF.put {s0 : Nat} {w W W1 W2 : World} {b B m : Nat} {k n e : Int} {s : ByteArray} {us us2 : List V} {o v2 : Value} {G G2 : Nat → Prop} {S : List V × Bool} {om0 om : Value} (h : KAccF s0 w W b B m k n e s us o G S om0 om)
    (hW : Below W.heap.size W W1) (hg : W1.grownBy W2 o.ownBlock) (hfr : FreshOr W1 o v2) (hr : PRow W2 (b + 1) G2 v2 us2) (hG : ∀ x, G2 x → G x ∨ ((x < s0 ∨ b + 1 ≤ x) ∧ ¬ ownM m om x)) :
    KAccF s0 w (W2.setCell ⟨b, 4, none⟩ v2) b B m k n e s us2 v2 G2 S om0 om := by
  have hl := h.box.lt
  have z1 := hW.size
  have z2 := hg.size
  have hz := h.touch.size
  have hwb := h.hwb
  have hs0 := h.hs0
  have hrng : ∀ x, G2 x → x < s0 ∨ b + 1 ≤ x := fun x hx => (hG x hx).elim (h.rng x) (fun h => h.1)
  have B2 : Box W2 b k n e s o 28 := by
    have hn : o.ownBlock ≠ some b := fun e => by have := (h.rows.lt b e).1; omega
    exact (hg.block b (by omega) (fun e => hn e.symm)).trans (h.box.stay hW)
  have hold : ∀ x, x < W.heap.size → x ≠ b → o.ownBlock ≠ some x → (W2.setCell ⟨b, 4, none⟩ v2).heap[x]? = W.heap[x]? := fun x hx h1 h2 => by
    rw [heap_setCell_other _ _ _ _ h1, hg.block x (by omega) (fun e => h2 e.symm)]; exact hW.block x hx
  refine ⟨B2.set4, hr.keep (by simp) (fun x hx _ => heap_setCell_other _ _ _ _ (fun e => ?_)), hrng, ?_, fun x hx => ?_, ?_, hwb, hs0⟩
  · have e' : x = b := e
    rcases hx with hx | hx
    · have := hrng x hx; omega
    · have := (hr.lt x hx).1; omega
  · exact h.mem.keep (by simp; omega) (fun x hx => hold x (h.mem.lt x hx).2 (h.sep x hx).1 (h.sep x hx).2.2)
  · have h1 := h.sep x hx
    have h2 := (h.mem.lt x hx).2
    refine ⟨h1.1, fun hG2 => (hG x hG2).elim h1.2.1 (fun h3 => h3.2 hx), fun e => ?_⟩
    rcases hfr with h3 | h3
    · exact h1.2.2 (h3.symm.trans e)
    · rw [h3] at e; simp only [Option.some.injEq] at e; omega
  · refine ⟨hg.os.trans (hW.os.trans h.touch.os), hg.tape.trans (hW.tape.trans h.touch.tape), hg.output.trans (hW.output.trans h.touch.output), by simp; omega, fun x hx hn => ?_, h.touch.new⟩
    exact (hold x (by omega) (fun e => hn (.inl e)) (fun e => by have := (h.rows.lt x e).1; omega)).trans (h.touch.block x hx hn)
theorem KAccF.aside {s0 : Nat} {w W : World} {b B m : Nat} {k n e : Int} {s : ByteArray} {us : List V} {o : Value} {G : Nat → Prop} {S : List V × Bool} {om0 om : Value} (h : KAccF s0 w W b B m k n e s us o G S om0 om) (c : Nat)
    (hcb : c ≠ b) (hcG : ¬ G c) (hco : o.ownBlock ≠ some c) (hcm : ¬ ownM m om c) (hcw : w.heap.size ≤ c) (v0 v1 v2 v3 v4 : Value) : KAccF s0 w (set5 W c v0 v1 v2 v3 v4) b B m k n e s us o G S om0 om := by
  have hz := size_set5 W c v0 v1 v2 v3 v4
  have hk : ∀ x, x ≠ c → (set5 W c v0 v1 v2 v3 v4).heap[x]? = W.heap[x]? := fun x hx => heap_set5 _ _ _ _ _ _ _ _ hx
  refine ⟨(hk b hcb.symm).trans h.box, h.rows.keep (by omega) (fun x hx _ => hk x (fun e => ?_)), h.rng, h.mem.keep (by omega) (fun x hx => hk x (fun e => hcm (e ▸ hx))), h.sep, ⟨(below_set5 W c v0 v1 v2 v3 v4).os.trans h.touch.os, (below_set5 W c v0 v1 v2 v3 v4).tape.trans h.touch.tape, (below_set5 W c v0 v1 v2 v3 v4).output.trans h.touch.output, by rw [hz]; exact h.touch.size, fun x hx hn => (hk x (by omega)).trans (h.touch.block x hx hn), h.touch.new⟩, h.hwb, h.hs0⟩
  subst e
  exact hx.elim hcG hco
theorem KAccF.nil {s0 : Nat} {w W : World} {b B m : Nat} {k n e : Int} {s : ByteArray} {S : List V × Bool} {om : Value} (hm : MOf B m S.1 S.2 om w) (hb : Below w.heap.size w W) (hB : Box W b k n e s (.slice none 0 0) 28) (hwb : w.heap.size ≤ b) (hz : W.heap.size = b + 1) (hs0 : s0 ≤ b) :
    KAccF s0 W W b B m k n e s [] (.slice none 0 0) (fun _ => False) S om om :=
  ⟨hB, PRow.nil _ _, fun _ h => h.elim, hm.stay hb, fun x hx => ⟨by have := (hm.lt x hx).2; omega, id, by simp [Value.ownBlock]⟩, Touch.refl _ _, hz, hs0⟩
theorem KAccF.own {s0 : Nat} {w W : World} {b B m : Nat} {k n e : Int} {s : ByteArray} {us : List V} {o : Value} {G : Nat → Prop} {S : List V × Bool} {om0 om : Value} (h : KAccF s0 w W b B m k n e s us o G S om0 om) :
    RepF W (fun x => (x < s0 ∨ b + 1 ≤ x) ∧ ¬ ownM m om x) o us := by
  refine h.rows.repF.mono (fun x hx _ => ?_)
  rcases hx with hx | hx
  · exact ⟨h.rng x hx, fun e => (h.sep x e).2.1 hx⟩
  · exact ⟨.inr (h.rows.lt x hx).1, fun e => (h.sep x e).2.2 hx⟩
theorem KAccF.done {s0 : Nat} {w0 w W : World} {b B m : Nat} {k n e : Int} {s : ByteArray} {us : List V} {o : Value} {G : Nat → Prop} {S : List V × Bool} {om0 om : Value} (h : KAccF s0 w W b B m k n e s us o G S om0 om) (hb : Below w0.heap.size w0 w) (hwb : w0.heap.size ≤ b) :
    Touch (ownM m om0) (ownM m om) w0 W := by
  have h1 := hb.size
  refine ⟨h.touch.os.trans hb.os, h.touch.tape.trans hb.tape, h.touch.output.trans hb.output, Nat.le_trans h1 h.touch.size, fun x hx hn => ?_, fun x hx => ?_⟩
  · exact (h.touch.block x (by omega) (fun e => e.elim (fun e => by omega) hn)).trans (hb.block x hx)
  · rcases h.touch.new x (.inr hx) with (h2 | h2) | h2
    · exact .inr (by omega)
    · exact .inl h2
    · exact .inr (by omega)
theorem KAccF.block {s0 : Nat} {w W : World} {b B m : Nat} {k n e : Int} {s : ByteArray} {us : List V} {o : Value} {G : Nat → Prop} {S : List V × Bool} {om0 om : Value} (h : KAccF s0 w W b B m k n e s us o G S om0 om) {c : Nat} (hc : c < b) (hm : ¬ ownM m om0 c) : W.heap[c]? = w.heap[c]? :=
  h.touch.block c (by have := h.hwb; omega) (fun e => e.elim (fun e => by omega) hm)
set_option maxHeartbeats 2000000 in
theorem kids_anyF (B m : Nat) (F : FuncId) (hF : ∀ (args : Array Value) (w : World), (callFunc F args).run Tryd.prog w = .ok (.enter F args) w) (f : V → List V × Bool → V × (List V × Bool)) (hf : ∀ t S, (f t S).2.1.length ≤ S.1.length + t.nodes)
    (w0 : World) (hB : w0.heap.size ≤ B) (v : Value) (t : V) (h : Rep w0 v t) (hsz : t.sz ≤ 1048576)
    (hBy : ∀ (j : Nat) (hj : j < t.kids.length) (x : Value) (S : List V × Bool) (om : Value) (W : World), Rep w0 x t.kids[j] → Below w0.heap.size w0 W → MOf B m S.1 S.2 om W → S.1.length + t.kids[j].nodes ≤ 1000000 →
      Calls Tryd.prog F #[.pointer (some ⟨m, 0, none⟩), x] W (MemRetF w0.heap.size B m om W (f t.kids[j] S)))
    (S : List V × Bool) (om : Value) (w : World) (hw : Below w0.heap.size w0 w) (hm : MOf B m S.1 S.2 om w) (hS : S.1.length + t.nodes ≤ 1000000) :
    Calls Tryd.prog 130 #[.pointer (some ⟨m, 0, none⟩), v, .func (.func F) #[.pointer (some ⟨m, 0, none⟩)] #[]] w
      (MemRetF w0.heap.size B m om w (.mk t.k t.n t.e t.s (kdS f (decide (t.k = 8)) 0 t.kids S).1, (kdS f (decide (t.k = 8)) 0 t.kids S).2)) := by
  obtain ⟨sl, rfl, hwf, hr⟩ := h
  have hts := V.sz_eq t
  have hlen := szs_length t.kids
  have HP := Lib.hid (show ∀ e w', (∃ sl om', e = .returned (.agg #[.int .i64 t.k, .int .i64 t.n, .int .i64 t.e, .string t.s, sl]) ∧ RepF w' (fun x => (x < w0.heap.size ∨ w.heap.size ≤ x) ∧ ¬ ownM m om' x) sl (kdS f (decide (t.k = 8)) 0 t.kids S).1 ∧ MOf B m (kdS f (decide (t.k = 8)) 0 t.kids S).2.1 (kdS f (decide (t.k = 8)) 0 t.kids S).2.2 om' w' ∧ Touch (ownM m om) (ownM m om') w w') →
      MemRetF w0.heap.size B m om w (.mk t.k t.n t.e t.s (kdS f (decide (t.k = 8)) 0 t.kids S).1, (kdS f (decide (t.k = 8)) 0 t.kids S).2) e w' from fun e w' ⟨sl, om', h1, h2, h3, h4⟩ => ⟨sl, om', h1, hwf, h2, h3, h4⟩)
  obtain ⟨a, b, off, cap, rfl, ha, hc, hmx, sls, hel⟩ := hr.opened
  have HA := Lib.hid ha; have HE := Lib.hid hel; have HW := Lib.hid hw; have HM := Lib.hid hm
  have HMLT := Lib.hid (show ∀ x, ownM m om x → B ≤ x ∧ x < w.heap.size from hm.lt)
  have V1 := Lib.hid (fun (j : Nat) (hj : j < t.kids.length) (S' : List V × Bool) (om' : Value) (W : World) (hW : Below w0.heap.size w0 W) (hm' : MOf B m S'.1 S'.2 om' W) (hS' : S'.1.length + t.kids[j].nodes ≤ 1000000) =>
    hBy j hj (t.kids[j].agg (sls j)) S' om' W ⟨sls j, rfl, (HE.out j hj).2.1, (HE.out j hj).2.2⟩ hW hm' hS')
  have HBD := Lib.hid (fun (j : Nat) (hj : j < t.kids.length) => show (kdS f (decide (t.k = 8)) 0 (t.kids.take j) S).2.1.length + t.kids[j].nodes ≤ 1000000 by
    have h1 := kdS_bound f hf (decide (t.k = 8)) (t.kids.take j) 0 S
    have h2 : nodess (t.kids.take j) + t.kids[j].nodes ≤ nodess t.kids := by
      have h3 := nodess_append (t.kids.take j) (t.kids.drop j)
      rw [List.take_append_drop, List.drop_eq_getElem_cons hj, nodess] at h3
      omega
    have h4 := V.nodes_eq t
    omega)
  have HT := Lib.hid (fun (j : Nat) (hj : j < t.kids.length) => kdS_take f (decide (t.k = 8)) t.kids S j hj)
  have HLN := Lib.hid (fun (j : Nat) => kdS_len f (decide (t.k = 8)) (t.kids.take j) 0 S)
  have hl : t.kids.length ≤ 1048576 := by omega
  have BX := Lib.hid (show Box (((w.alloc (.cells #[.int .i64 t.k, .int .i64 t.n, .int .i64 t.e, .string t.s, .slice a t.kids.length cap] 28)).alloc (.cells #[.int .i64 0, .int .i64 0, .int .i64 0, .string ⟨#[]⟩, .slice none 0 0] 28)).alloc (.cells #[.int .i64 t.k, .int .i64 t.n, .int .i64 t.e, .string t.s, .slice none 0 0] 28)) w.heap.size t.k t.n t.e t.s (.slice a t.kids.length cap) 28 from ((Box.new w _ _ _ _ _ _).alloc _).alloc _)
  have BZ := Lib.hid (show Box (((w.alloc (.cells #[.int .i64 t.k, .int .i64 t.n, .int .i64 t.e, .string t.s, .slice a t.kids.length cap] 28)).alloc (.cells #[.int .i64 0, .int .i64 0, .int .i64 0, .string ⟨#[]⟩, .slice none 0 0] 28)).alloc (.cells #[.int .i64 t.k, .int .i64 t.n, .int .i64 t.e, .string t.s, .slice none 0 0] 28)) (w.heap.size + 1) 0 0 0 ⟨#[]⟩ (.slice none 0 0) 28 by
    have := (Box.new (w.alloc (.cells #[.int .i64 t.k, .int .i64 t.n, .int .i64 t.e, .string t.s, .slice a t.kids.length cap] 28)) 0 0 0 ⟨#[]⟩ (.slice none 0 0) 28).alloc (.cells #[.int .i64 t.k, .int .i64 t.n, .int .i64 t.e, .string t.s, .slice none 0 0] 28)
    rwa [show (w.alloc (.cells #[.int .i64 t.k, .int .i64 t.n, .int .i64 t.e, .string t.s, .slice a t.kids.length cap] 28)).heap.size = w.heap.size + 1 by simp] at this)
  have BO := Lib.hid (show Box (((w.alloc (.cells #[.int .i64 t.k, .int .i64 t.n, .int .i64 t.e, .string t.s, .slice a t.kids.length cap] 28)).alloc (.cells #[.int .i64 0, .int .i64 0, .int .i64 0, .string ⟨#[]⟩, .slice none 0 0] 28)).alloc (.cells #[.int .i64 t.k, .int .i64 t.n, .int .i64 t.e, .string t.s, .slice none 0 0] 28)) (w.heap.size + 1 + 1) t.k t.n t.e t.s (.slice none 0 0) 28 by
    have := Box.new ((w.alloc (.cells #[.int .i64 t.k, .int .i64 t.n, .int .i64 t.e, .string t.s, .slice a t.kids.length cap] 28)).alloc (.cells #[.int .i64 0, .int .i64 0, .int .i64 0, .string ⟨#[]⟩, .slice none 0 0] 28)) t.k t.n t.e t.s (.slice none 0 0) 28
    rwa [show ((w.alloc (.cells #[.int .i64 t.k, .int .i64 t.n, .int .i64 t.e, .string t.s, .slice a t.kids.length cap] 28)).alloc (.cells #[.int .i64 0, .int .i64 0, .int .i64 0, .string ⟨#[]⟩, .slice none 0 0] 28)).heap.size = w.heap.size + 1 + 1 by simp] at this)
  clear hel ha hc hmx hr hwf hlen hts hsz hBy hm hS hf
  unfold V.agg
  generalize t.k = k at *
  generalize t.n = n at *
  generalize t.e = e at *
  generalize t.s = s at *
  generalize t.kids = ts at *
  obtain ⟨LR, SR, hLR⟩ : ∃ LR SR, kdS f (decide (k = 8)) 0 ts S = (LR, SR) := ⟨_, _, rfl⟩
  rw [hLR] at HP ⊢
  go_enter Tryd.func130, Tryd.ntmps130
  go_wp2_with fail
  have HBW := Lib.hid (show Below w.heap.size w (((w.alloc (.cells #[.int .i64 k, .int .i64 n, .int .i64 e, .string s, .slice a ts.length cap] 28)).alloc (.cells #[.int .i64 0, .int .i64 0, .int .i64 0, .string ⟨#[]⟩, .slice none 0 0] 28)).alloc (.cells #[.int .i64 k, .int .i64 n, .int .i64 e, .string s, .slice none 0 0] 28)) from (by (repeat' (first | with_reducible exact Below.refl _ _ | with_reducible refine below_alloc ?_ _ ?_ | with_reducible refine Below.setCell ?_ ?_ _ | with_reducible refine Below.drew ?_ | with_reducible refine below_drewN ?_ _ | with_reducible refine below_step ?_ (by assumption) ?_ | with_reducible refine below_mark ?_ (by assumption) ?_)); all_goals (first | omega | (simp; done) | (simp; omega))))
  have HZW := Lib.hid (show (((w.alloc (.cells #[.int .i64 k, .int .i64 n, .int .i64 e, .string s, .slice a ts.length cap] 28)).alloc (.cells #[.int .i64 0, .int .i64 0, .int .i64 0, .string ⟨#[]⟩, .slice none 0 0] 28)).alloc (.cells #[.int .i64 k, .int .i64 n, .int .i64 e, .string s, .slice none 0 0] 28)).heap.size = w.heap.size + 1 + 1 + 1 by simp)
  generalize (((w.alloc (.cells #[.int .i64 k, .int .i64 n, .int .i64 e, .string s, .slice a ts.length cap] 28)).alloc (.cells #[.int .i64 0, .int .i64 0, .int .i64 0, .string ⟨#[]⟩, .slice none 0 0] 28)).alloc (.cells #[.int .i64 k, .int .i64 n, .int .i64 e, .string s, .slice none 0 0] 28)) = W3 at *
  go_loopw [15, 8, 9, 20, 32] (fun i _ _ _ _ wr => ∃ (j : Nat) (G : Nat → Prop) (o : Value) (L1 : List V) (S' : List V × Bool) (om' : Value), j ≤ ts.length ∧ i = .int .i64 j ∧ kdS f (decide (k = 8)) 0 (ts.take j) S = (L1, S') ∧ KAccF w0.heap.size W3 wr (w.heap.size + 1 + 1) B m k n e s L1 o G S' om om') (fun i _ _ _ _ _ => ts.length - (intOf i).toNat)
  case atStart => exact ⟨0, _, _, [], S, om, by omega, rfl, by rw [List.take_zero, kdS], KAccF.nil HM.out HBW.out BO.out (by omega) HZW.out (by have := HW.out.size; omega)⟩
  case round =>
    obtain ⟨j, G, o, L1, S1, om1, hj, rfl, hkd, hacc⟩ := hrel
    have HACC := Lib.hid hacc; have HKD := Lib.hid hkd; clear hacc hkd
    have hz9 := HACC.out.touch.size
    rw [HZW.out] at hz9
    have HDN := Lib.hid (HACC.out.done HBW.out (by omega))
    have HBL := Lib.hid (show Below w0.heap.size w wr from HDN.out.below (fun x hx => Nat.le_trans hB (HMLT.out x hx).1) HW.out.size)
    have BXw := Lib.hid (show Box wr w.heap.size k n e s (.slice a ts.length cap) 28 from (HACC.out.block (by omega) (fun e => by have := (HMLT.out _ e).2; omega)).trans BX.out)
    have BZw := Lib.hid (show Box wr (w.heap.size + 1) 0 0 0 ⟨#[]⟩ (.slice none 0 0) 28 from (HACC.out.block (by omega) (fun e => by have := (HMLT.out _ e).2; omega)).trans BZ.out)
    by_cases hlt : j < ts.length
    · have hne : ts ≠ [] := by intro e; rw [e] at hlt; simp at hlt
      obtain ⟨rfl, hbw⟩ := HA.out hne
      have HWR := Lib.hid (HW.out.trans HBL.out)
      obtain ⟨c0, c1, c2, c3, c4⟩ := (HE.out j hlt).1.keep (HWR.out.block b hbw)
      have hR1 : S1.1.length + ts[j].nodes ≤ 1000000 := by have := HBD.out j hlt; rw [HKD.out] at this; exact this
      have VJ := Lib.hid (fun (W : World) (hW : Below wr.heap.size wr W) => V1.out j hlt S1 om1 W (below_step HWR.out hW (by have := HWR.out.size; omega)) (HACC.out.mem.stay hW) hR1)
      have NJ := Lib.hid (fun (W : World) (hW : Below wr.heap.size wr W) => note_any B m S1.1 S1.2 om1 ts[j] (sls j) W (HACC.out.mem.stay hW) (by omega) (HE.out j hlt).2.1)
      have HTJ := Lib.hid (HT.out j hlt)
      rw [HKD.out] at HTJ
      have HLEN := Lib.hid (show L1.length ≤ 1048576 by have := HLN.out j; rw [HKD.out] at this; rw [this, List.length_take]; omega)
      have HNO := Lib.hid (fun (W : World) (hW : Below w0.heap.size w0 W) => show RepF W (fun x => x < w0.heap.size) (sls j) ts[j].kids from (HE.out j hlt).2.2.toF.stay hW)
      have HWF0 := Lib.hid ((HE.out j hlt).2.1)
      obtain ⟨a3, cap3, hs3⟩ := (HE.out j hlt).2.2.slice
      rw [hs3] at c4 VJ NJ HNO
      clear hs3 V1 HT HLN HBD hR1
      unfold V.agg at VJ NJ
      have hw0n : w.heap.size ≠ wr.heap.size := by omega
      have hw0s : wr.heap.size ≠ w.heap.size := by omega
      have hw0l : w.heap.size < wr.heap.size := by omega
      generalize ts[j] = tk at *
      obtain ⟨q0, q1, q2, q3, q4⟩ := BXw.out.cells
      by_cases hcase : k = 8 ∧ j % 2 = 0
      · have t1 : (k != 8) = false := by simpa using hcase.1
        have t2 : ((j : Int) % 2 == 1) = false := by have := hcase.2; simp; omega
        have hT : (decide (k = 8) && decide (j % 2 = 0)) = true := by simp [hcase.1, hcase.2]
        rw [hT] at HTJ
        clear hT hcase VJ
        by_cases htx : tk.k = 5 ∨ tk.k = 6
        · have hq : decide (tk.k = 5 ∨ tk.k = 6) = true := decide_eq_true htx
          have HTK := Lib.hid (show kdT f true tk S1 = (tk, (keepR S1.1 tk, S1.2)) by unfold kdT keyG keyR isTx; rw [if_pos rfl, if_pos hq])
          rw [HTK.out] at HTJ
          clear HTK htx
          go_wp2_with fail
          refine (isText_any _ _ _ _ _ _).mono ?_
          rintro x w0' ⟨h1, hb0⟩
          rw [hq] at h1
          subst h1
          have hz0 := hb0.size
          simp at hz0
          obtain ⟨d0, d1, d2, d3, d4⟩ := ((Box.new wr tk.k tk.n tk.e tk.s (.slice a3 tk.kids.length cap3) 28).stay hb0).cells
          go_wp2_with fail
          refine (NJ.out _ ((by (repeat' (first | with_reducible exact Below.refl _ _ | with_reducible refine below_alloc ?_ _ ?_ | with_reducible refine Below.setCell ?_ ?_ _ | with_reducible refine Below.drew ?_ | with_reducible refine below_drewN ?_ _ | with_reducible refine below_step ?_ (by assumption) ?_ | with_reducible refine below_mark ?_ (by assumption) ?_)); all_goals (first | omega | (simp; done) | (simp; omega))))).mono ?_
          rintro x w1 ⟨rfl, om2, hm2, ht2⟩
          have hz1 := ht2.size
          have hbn : Below wr.heap.size wr w0' := (by (repeat' (first | with_reducible exact Below.refl _ _ | with_reducible refine below_alloc ?_ _ ?_ | with_reducible refine Below.setCell ?_ ?_ _ | with_reducible refine Below.drew ?_ | with_reducible refine below_drewN ?_ _ | with_reducible refine below_step ?_ (by assumption) ?_ | with_reducible refine below_mark ?_ (by assumption) ?_)); all_goals (first | omega | (simp; done) | (simp; omega)))
          have HACC2 := Lib.hid ((HACC.out.stay hbn).over (S' := (keepR S1.1 tk, S1.2)) ht2 hm2)
          have HB9 := Lib.hid (HW.out.trans (show Below w0.heap.size w w1 from (HACC2.out.done HBW.out (by omega)).below (fun x hx => Nat.le_trans hB (HMLT.out x hx).1) HW.out.size))
          have BKW := Lib.hid (show Box w1 wr.heap.size tk.k tk.n tk.e tk.s (.slice a3 tk.kids.length cap3) 28 from (ht2.block wr.heap.size (by omega) (fun h => by have := (HACC.out.mem.lt _ h).2; omega)).trans ((Box.new wr _ _ _ _ _ _).stay hb0))
          obtain ⟨y0, y1, y2, y3, y4⟩ := BKW.out.cells
          obtain ⟨g0, g1, g2, g3, g4⟩ := HACC2.out.box.cells
          have HWF := HWF0
          clear q0 q1 q2 q3 q4 c0 c1 c2 c3 c4 d0 d1 d2 d3 d4 hb0 hm2 ht2 NJ HWF0 hbn
          go_wp2_with (at_builtin; go_loud (refine app_vals rfl _ _ rfl (w.heap.size + 1 + 1 + 1) G (fun x => x < w0.heap.size) _ L1 _ _ rfl ((HACC2.out.stay ((by (repeat' (first | with_reducible exact Below.refl _ _ | with_reducible refine below_alloc ?_ _ ?_ | with_reducible refine Below.setCell ?_ ?_ _ | with_reducible refine Below.drew ?_ | with_reducible refine below_drewN ?_ _ | with_reducible refine below_step ?_ (by assumption) ?_ | with_reducible refine below_mark ?_ (by assumption) ?_)); all_goals (first | omega | (simp; done) | (simp; omega))))).rows) _ rfl (vsrc_box (t := tk) (by first | exact heap_alloc_here _ (by simp) | exact heap_alloc_here _ rfl) HWF.out (HNO.out _ (HB9.out.trans (Below.mono (show Below w1.heap.size w1 _ from (by (repeat' (first | with_reducible exact Below.refl _ _ | with_reducible refine below_alloc ?_ _ ?_ | with_reducible refine Below.setCell ?_ ?_ _ | with_reducible refine Below.drew ?_ | with_reducible refine below_drewN ?_ _ | with_reducible refine below_step ?_ (by assumption) ?_ | with_reducible refine below_mark ?_ (by assumption) ?_)); all_goals (first | omega | (simp; done) | (simp; omega)))) HB9.out.size)))) (fun x hx => ⟨by have hx9 : x < w0.heap.size := hx; have h3 := HWR.out.size; simp; omega, fun e => by have hx9 : x < w0.heap.size := hx; have h1 := (HACC.out.rows.lt x e).1; have h3 := HW.out.size; omega⟩) (by have := HLEN.out; simp; omega) (by simp; omega) ?_); intro v2 w2 hrow2 hg2 hfr2; obtain ⟨va, vn, vc, rfl⟩ := hrow2.slice3; have HG2 := Lib.hid hg2; have HR2 := Lib.hid hrow2; have HF2 := Lib.hid hfr2; have HB2 := Lib.hid (show Box w2 (w.heap.size + 1 + 1) k n e s o 28 from (hg2.block (w.heap.size + 1 + 1) (by simp; omega) (fun e => by have := (HACC.out.rows.lt _ e.symm).1; omega)).trans (HACC2.out.stay ((by (repeat' (first | with_reducible exact Below.refl _ _ | with_reducible refine below_alloc ?_ _ ?_ | with_reducible refine Below.setCell ?_ ?_ _ | with_reducible refine Below.drew ?_ | with_reducible refine below_drewN ?_ _ | with_reducible refine below_step ?_ (by assumption) ?_ | with_reducible refine below_mark ?_ (by assumption) ?_)); all_goals (first | omega | (simp; done) | (simp; omega))))).box); have hfz := HB2.out.free (i := 4); have hcc := HB2.out.cells.2.2.2.2; clear hrow2 hg2 hfr2)
          go_roundw
          case rel => exact ⟨j + 1, _, _, _, _, _, by omega, by go_num, HTJ.out, HACC2.out.put ((by (repeat' (first | with_reducible exact Below.refl _ _ | with_reducible refine below_alloc ?_ _ ?_ | with_reducible refine Below.setCell ?_ ?_ _ | with_reducible refine Below.drew ?_ | with_reducible refine below_drewN ?_ _ | with_reducible refine below_step ?_ (by assumption) ?_ | with_reducible refine below_mark ?_ (by assumption) ?_)); all_goals (first | omega | (simp; done) | (simp; omega)))) HG2.out HF2.out HR2.out (fun x hx => hx.imp id (fun h => ⟨.inl h, fun e => by have h9 : x < w0.heap.size := h; have := (HACC2.out.mem.lt x e).1; omega⟩))⟩
          case measure => simp [intOf]; omega
        · have hq : decide (tk.k = 5 ∨ tk.k = 6) = false := decide_eq_false htx
          have HTK := Lib.hid (show kdT f true tk S1 = (tk, S1) by unfold kdT keyG keyR isTx; rw [if_pos rfl, if_neg (by rw [hq]; simp)])
          rw [HTK.out] at HTJ
          clear HTK htx NJ
          go_wp2_with fail
          refine (isText_any _ _ _ _ _ _).mono ?_
          rintro x w1 ⟨h1, hb0⟩
          rw [hq] at h1
          subst h1
          have hz0 := hb0.size
          simp at hz0
          have hbn : Below wr.heap.size wr w1 := (by (repeat' (first | with_reducible exact Below.refl _ _ | with_reducible refine below_alloc ?_ _ ?_ | with_reducible refine Below.setCell ?_ ?_ _ | with_reducible refine Below.drew ?_ | with_reducible refine below_drewN ?_ _ | with_reducible refine below_step ?_ (by assumption) ?_ | with_reducible refine below_mark ?_ (by assumption) ?_)); all_goals (first | omega | (simp; done) | (simp; omega)))
          have HACC2 := Lib.hid (HACC.out.stay hbn)
          have HB9 := Lib.hid (HW.out.trans (show Below w0.heap.size w w1 from (HACC2.out.done HBW.out (by omega)).below (fun x hx => Nat.le_trans hB (HMLT.out x hx).1) HW.out.size))
          obtain ⟨y0, y1, y2, y3, y4⟩ := ((Box.new wr tk.k tk.n tk.e tk.s (.slice a3 tk.kids.length cap3) 28).stay hb0).cells
          obtain ⟨g0, g1, g2, g3, g4⟩ := HACC2.out.box.cells
          have HWF := HWF0
          clear q0 q1 q2 q3 q4 c0 c1 c2 c3 c4 hb0 HWF0 hbn
          go_wp2_with (at_builtin; go_loud (refine app_vals rfl _ _ rfl (w.heap.size + 1 + 1 + 1) G (fun x => x < w0.heap.size) _ L1 _ _ rfl ((HACC2.out.stay ((by (repeat' (first | with_reducible exact Below.refl _ _ | with_reducible refine below_alloc ?_ _ ?_ | with_reducible refine Below.setCell ?_ ?_ _ | with_reducible refine Below.drew ?_ | with_reducible refine below_drewN ?_ _ | with_reducible refine below_step ?_ (by assumption) ?_ | with_reducible refine below_mark ?_ (by assumption) ?_)); all_goals (first | omega | (simp; done) | (simp; omega))))).rows) _ rfl (vsrc_box (t := tk) (by first | exact heap_alloc_here _ (by simp) | exact heap_alloc_here _ rfl) HWF.out (HNO.out _ (HB9.out.trans (Below.mono (show Below w1.heap.size w1 _ from (by (repeat' (first | with_reducible exact Below.refl _ _ | with_reducible refine below_alloc ?_ _ ?_ | with_reducible refine Below.setCell ?_ ?_ _ | with_reducible refine Below.drew ?_ | with_reducible refine below_drewN ?_ _ | with_reducible refine below_step ?_ (by assumption) ?_ | with_reducible refine below_mark ?_ (by assumption) ?_)); all_goals (first | omega | (simp; done) | (simp; omega)))) HB9.out.size)))) (fun x hx => ⟨by have hx9 : x < w0.heap.size := hx; have h3 := HWR.out.size; simp; omega, fun e => by have hx9 : x < w0.heap.size := hx; have h1 := (HACC.out.rows.lt x e).1; have h3 := HW.out.size; omega⟩) (by have := HLEN.out; simp; omega) (by simp; omega) ?_); intro v2 w2 hrow2 hg2 hfr2; obtain ⟨va, vn, vc, rfl⟩ := hrow2.slice3; have HG2 := Lib.hid hg2; have HR2 := Lib.hid hrow2; have HF2 := Lib.hid hfr2; have HB2 := Lib.hid (show Box w2 (w.heap.size + 1 + 1) k n e s o 28 from (hg2.block (w.heap.size + 1 + 1) (by simp; omega) (fun e => by have := (HACC.out.rows.lt _ e.symm).1; omega)).trans (HACC2.out.stay ((by (repeat' (first | with_reducible exact Below.refl _ _ | with_reducible refine below_alloc ?_ _ ?_ | with_reducible refine Below.setCell ?_ ?_ _ | with_reducible refine Below.drew ?_ | with_reducible refine below_drewN ?_ _ | with_reducible refine below_step ?_ (by assumption) ?_ | with_reducible refine below_mark ?_ (by assumption) ?_)); all_goals (first | omega | (simp; done) | (simp; omega))))).box); have hfz := HB2.out.free (i := 4); have hcc := HB2.out.cells.2.2.2.2; clear hrow2 hg2 hfr2)
          go_roundw
          case rel => exact ⟨j + 1, _, _, _, _, _, by omega, by go_num, HTJ.out, HACC2.out.put ((by (repeat' (first | with_reducible exact Below.refl _ _ | with_reducible refine below_alloc ?_ _ ?_ | with_reducible refine Below.setCell ?_ ?_ _ | with_reducible refine Below.drew ?_ | with_reducible refine below_drewN ?_ _ | with_reducible refine below_step ?_ (by assumption) ?_ | with_reducible refine below_mark ?_ (by assumption) ?_)); all_goals (first | omega | (simp; done) | (simp; omega)))) HG2.out HF2.out HR2.out (fun x hx => hx.imp id (fun h => ⟨.inl h, fun e => by have h9 : x < w0.heap.size := h; have := (HACC2.out.mem.lt x e).1; omega⟩))⟩
          case measure => simp [intOf]; omega
      · have tt : (k != 8) = true ∨ ((k != 8) = false ∧ (((j : Int) % 2 == 1) = true)) := by
          by_cases h8 : k = 8
          · exact .inr ⟨by simpa using h8, by have : ¬ j % 2 = 0 := fun e => hcase ⟨h8, e⟩
                                              simp; omega⟩
          · exact .inl (by simpa using h8)
        have hT : (decide (k = 8) && decide (j % 2 = 0)) = false := by
          cases hb : (decide (k = 8) && decide (j % 2 = 0)) with
          | false => rfl
          | true => simp only [Bool.and_eq_true, decide_eq_true_eq] at hb; exact absurd hb hcase
        rw [hT] at HTJ
        have HTK := Lib.hid (show kdT f false tk S1 = f tk S1 from rfl)
        rw [HTK.out] at HTJ
        clear hT hcase HTK NJ HNO HWF0
        obtain ⟨u, S2, hr2⟩ : ∃ u S2, f tk S1 = (u, S2) := ⟨_, _, rfl⟩
        rw [hr2] at VJ HTJ
        clear hr2
        rcases tt with t1 | ⟨t1, t2⟩
        all_goals go_wp2_with fail
        all_goals refine (VJ.out _ ((by (repeat' (first | with_reducible exact Below.refl _ _ | with_reducible refine below_alloc ?_ _ ?_ | with_reducible refine Below.setCell ?_ ?_ _ | with_reducible refine Below.drew ?_ | with_reducible refine below_drewN ?_ _ | with_reducible refine below_step ?_ (by assumption) ?_ | with_reducible refine below_mark ?_ (by assumption) ?_)); all_goals (first | omega | (simp; done) | (simp; omega))))).mono ?_
        all_goals
          rintro x w1 ⟨s2, om2, rfl, uwf, ho, hm2, ht2⟩
          obtain ⟨sa, sn, sc, rfl⟩ : ∃ sa sn sc, s2 = .slice sa sn sc := by obtain ⟨p, q, e⟩ := ho.slice; exact ⟨p, _, q, e⟩
          unfold V.agg
          have hz1 := ht2.size
          simp at hz1
          have hnm : ¬ ownM m om2 wr.heap.size := fun h => by
            rcases ht2.new _ h with h1 | h1
            · have := (HACC.out.mem.lt _ h1).2; omega
            · simp at h1; omega
          have hbn : Below wr.heap.size wr (wr.alloc (.cells #[.int .i64 tk.k, .int .i64 tk.n, .int .i64 tk.e, .string tk.s, .slice a3 tk.kids.length cap3] 28)) := (by (repeat' (first | with_reducible exact Below.refl _ _ | with_reducible refine below_alloc ?_ _ ?_ | with_reducible refine Below.setCell ?_ ?_ _ | with_reducible refine Below.drew ?_ | with_reducible refine below_drewN ?_ _ | with_reducible refine below_step ?_ (by assumption) ?_ | with_reducible refine below_mark ?_ (by assumption) ?_)); all_goals (first | omega | (simp; done) | (simp; omega)))
          have HACC1 := Lib.hid ((HACC.out.stay hbn).over (S' := S2) ht2 hm2)
          have BKW := Lib.hid (show Box w1 wr.heap.size tk.k tk.n tk.e tk.s (.slice a3 tk.kids.length cap3) 28 from (ht2.block wr.heap.size (by simp) (fun h => by have := (HACC.out.mem.lt _ h).2; omega)).trans (Box.new wr _ _ _ _ _ _))
          obtain ⟨y0, y1, y2, y3, y4⟩ := BKW.out.cells
          have yf0 := BKW.out.free (i := 0); have yf1 := BKW.out.free (i := 1); have yf2 := BKW.out.free (i := 2); have yf3 := BKW.out.free (i := 3); have yf4 := BKW.out.free (i := 4)
          have HACC2 := Lib.hid (HACC1.out.aside wr.heap.size (by omega) (fun h => by have := HACC.out.rows.inG _ h; omega) (fun h => by have := (HACC.out.rows.lt _ h).2; omega) hnm (by have := HZW.out; omega) (.int .i64 u.k) (.int .i64 u.n) (.int .i64 u.e) (.string u.s) (.slice sa sn sc))
          have HO2 := Lib.hid (RepF.set5 ho.bound wr.heap.size (fun h => by have h3 := HWR.out.size; rcases h.1.1 with h1 | h1; omega; simp at h1; omega) (.int .i64 u.k) (.int .i64 u.n) (.int .i64 u.e) (.string u.s) (.slice sa sn sc))
          have HWF := Lib.hid uwf
          obtain ⟨g0, g1, g2, g3, g4⟩ := HACC1.out.box.cells
          have hw1m : w.heap.size + 1 + 1 ≠ wr.heap.size := by omega
          have hw1t : wr.heap.size ≠ w.heap.size + 1 + 1 := by omega
          have hw1k : w.heap.size + 1 + 1 < wr.heap.size := by omega
          clear q0 q1 q2 q3 q4 c0 c1 c2 c3 c4 uwf ho hm2 ht2 hnm VJ hbn
          have hzX : (set5 w1 wr.heap.size (.int .i64 u.k) (.int .i64 u.n) (.int .i64 u.e) (.string u.s) (.slice sa sn sc)).heap.size = w1.heap.size := size_set5 _ _ _ _ _ _ _
          have HROW := Lib.hid (show PRow ((set5 w1 wr.heap.size (.int .i64 u.k) (.int .i64 u.n) (.int .i64 u.e) (.string u.s) (.slice sa sn sc)).alloc (.cells #[.int .i64 u.k, .int .i64 u.n, .int .i64 u.e, .string u.s, .slice sa sn sc] 28)) (w.heap.size + 1 + 1 + 1) G o L1 from (HACC2.out.stay ((Below.refl _ _).alloc (Nat.le_refl _) _)).rows)
          have HSRC := Lib.hid (show VSrc ((set5 w1 wr.heap.size (.int .i64 u.k) (.int .i64 u.n) (.int .i64 u.e) (.string u.s) (.slice sa sn sc)).alloc (.cells #[.int .i64 u.k, .int .i64 u.n, .int .i64 u.e, .string u.s, .slice sa sn sc] 28)) (fun x => ((x < w0.heap.size ∨ (wr.alloc (.cells #[.int .i64 tk.k, .int .i64 tk.n, .int .i64 tk.e, .string tk.s, .slice a3 tk.kids.length cap3] 28)).heap.size ≤ x) ∧ ¬ ownM m om2 x) ∧ x < w1.heap.size) (.slice (some ⟨w1.heap.size, 0, none⟩) 1 1) [u] [.slice sa sn sc] from vsrc_box (t := u) (heap_alloc_here _ hzX.symm) HWF.out (RepF.keep HO2.out (by simp) (fun x hx hxs => heap_alloc_old _ _ hxs)))
          have HHF := Lib.hid (show ∀ x, (fun x => ((x < w0.heap.size ∨ (wr.alloc (.cells #[.int .i64 tk.k, .int .i64 tk.n, .int .i64 tk.e, .string tk.s, .slice a3 tk.kids.length cap3] 28)).heap.size ≤ x) ∧ ¬ ownM m om2 x) ∧ x < w1.heap.size) x → x < ((set5 w1 wr.heap.size (.int .i64 u.k) (.int .i64 u.n) (.int .i64 u.e) (.string u.s) (.slice sa sn sc)).alloc (.cells #[.int .i64 u.k, .int .i64 u.n, .int .i64 u.e, .string u.s, .slice sa sn sc] 28)).heap.size ∧ o.ownBlock ≠ some x by
            intro x hx
            refine ⟨?_, fun e => ?_⟩
            · have h1 := hx.2
              have h2 : ((set5 w1 wr.heap.size (.int .i64 u.k) (.int .i64 u.n) (.int .i64 u.e) (.string u.s) (.slice sa sn sc)).alloc (.cells #[.int .i64 u.k, .int .i64 u.n, .int .i64 u.e, .string u.s, .slice sa sn sc] 28)).heap.size = (set5 w1 wr.heap.size (.int .i64 u.k) (.int .i64 u.n) (.int .i64 u.e) (.string u.s) (.slice sa sn sc)).heap.size + 1 := by simp
              omega
            · have h1 := (HACC.out.rows.lt x e)
              have h3 := HWR.out.size
              have h4 := HW.out.size
              rcases hx.1.1 with h2 | h2
              · omega
              · simp at h2; omega)
          go_wp2_with (at_builtin; go_loud (refine app_vals rfl _ _ rfl (w.heap.size + 1 + 1 + 1) G (fun x => ((x < w0.heap.size ∨ (wr.alloc (.cells #[.int .i64 tk.k, .int .i64 tk.n, .int .i64 tk.e, .string tk.s, .slice a3 tk.kids.length cap3] 28)).heap.size ≤ x) ∧ ¬ ownM m om2 x) ∧ x < w1.heap.size) _ L1 [u] [.slice sa sn sc] rfl HROW.out _ rfl HSRC.out HHF.out (by have := HLEN.out; simp; omega) (by simp; omega) ?_); intro v2 w2 hrow2 hg2 hfr2; obtain ⟨va, vn, vc, rfl⟩ := hrow2.slice3; have HG2 := Lib.hid hg2; have HR2 := Lib.hid hrow2; have HF2 := Lib.hid hfr2; have HB2 := Lib.hid (show Box w2 (w.heap.size + 1 + 1) k n e s o 28 from (hg2.block (w.heap.size + 1 + 1) (by simp; omega) (fun e => by have := (HACC.out.rows.lt _ e.symm).1; omega)).trans (HACC2.out.stay ((by (repeat' (first | with_reducible exact Below.refl _ _ | with_reducible refine below_alloc ?_ _ ?_ | with_reducible refine Below.setCell ?_ ?_ _ | with_reducible refine Below.drew ?_ | with_reducible refine below_drewN ?_ _ | with_reducible refine below_step ?_ (by assumption) ?_ | with_reducible refine below_mark ?_ (by assumption) ?_)); all_goals (first | omega | (simp; done) | (simp; omega))))).box); have hfz := HB2.out.free (i := 4); have hcc := HB2.out.cells.2.2.2.2; clear hrow2 hg2 hfr2)
          go_roundw
          case rel => exact ⟨j + 1, _, _, _, _, _, by omega, by go_num, HTJ.out, HACC2.out.put ((by (repeat' (first | with_reducible exact Below.refl _ _ | with_reducible refine below_alloc ?_ _ ?_ | with_reducible refine Below.setCell ?_ ?_ _ | with_reducible refine Below.drew ?_ | with_reducible refine below_drewN ?_ _ | with_reducible refine below_step ?_ (by assumption) ?_ | with_reducible refine below_mark ?_ (by assumption) ?_)); all_goals (first | omega | (simp; done) | (simp; omega)))) HG2.out HF2.out HR2.out (fun x hx => hx.imp id (fun h => ⟨h.1.1.imp id (fun h2 => by simp at h2; omega), h.1.2⟩))⟩
          case measure => simp [intOf]; omega
    · have H := Lib.hid (show ts.take j = ts from List.take_of_length_le (by omega))
      have HE2 := Lib.hid (show kdS f (decide (k = 8)) 0 ts S = (L1, S1) by have := HKD.out; rwa [H.out] at this)
      obtain ⟨rfl, rfl⟩ : LR = L1 ∧ SR = S1 := by have := hLR.symm.trans HE2.out; simpa using this
      obtain ⟨oa, on, oc, rfl⟩ := HACC.out.rows.slice3
      obtain ⟨g0, g1, g2, g3, g4⟩ := HACC.out.box.cells
      obtain ⟨z0, z1, z2, z3, z4⟩ := BZw.out.cells
      have zf0 := BZw.out.free (i := 0); have zf1 := BZw.out.free (i := 1); have zf2 := BZw.out.free (i := 2); have zf3 := BZw.out.free (i := 3); have zf4 := BZw.out.free (i := 4)
      have hnz : ¬ ownM m om1 (w.heap.size + 1) := fun h => by
        rcases HACC.out.touch.new _ (.inr h) with (h1 | h1) | h1
        · omega
        · have := (HMLT.out _ h1).2; omega
        · have := HZW.out; omega
      have HX := Lib.hid (HACC.out.own.set5 (w.heap.size + 1) (fun h => by have h3 := HW.out.size; have := h.1; omega) (.int .i64 k) (.int .i64 n) (.int .i64 e) (.string s) (.slice oa on oc))
      have HY := Lib.hid (HACC.out.mem.set5 (w.heap.size + 1) hnz (.int .i64 k) (.int .i64 n) (.int .i64 e) (.string s) (.slice oa on oc))
      have HV := Lib.hid (HDN.out.set5 (w.heap.size + 1) (by omega) (.int .i64 k) (.int .i64 n) (.int .i64 e) (.string s) (.slice oa on oc))
      clear H HE HA V1 HT BX BO BZ BZw BXw HACC HE2 HKD HDN hnz HBL HLN HBD
      go_wp2_with fail
      refine bodyPost_ret (v := .agg #[.int .i64 k, .int .i64 n, .int .i64 e, .string s, .slice oa on oc]) (by simp [results, Tryd.results130, go_sem, z0, z1, z2, z3, z4]) rfl (HP.out _ _ ⟨_, om1, rfl, HX.out.mono (fun x hx _ => ⟨hx.1.imp id (fun h => by omega), hx.2⟩), HY.out, HV.out⟩)
end Go.Proofs.YtiemlefmhleaeaaDoor
namespace Go.Proofs.YtiemlefmhleaeaaDoor
set_option linter.unusedVariables false
set_option maxRecDepth 100000
open Go.RowKit
mutual
theorem getI_bound : ∀ (t : V) (S : List V × Bool), (getI t S).2.1.length ≤ S.1.length + t.nodes
  | .mk k n e s ks, S => by
    rw [getI_eq, V.nodes_eq]
    split
    · have := keepR_length S.1 (.mk k n e s ks); show (keepR S.1 (.mk k n e s ks)).length ≤ _; omega
    · split
      · split
        · exact Nat.le_add_right _ _
        · exact Nat.le_add_right _ _
      · have := getIs_bound ks (S.1, S.2 || (decide (k = 9) && decide (n = 256))) (decide (k = 8)) 0
        show (getIs (decide (k = 8)) 0 ks (S.1, S.2 || (decide (k = 9) && decide (n = 256)))).2.1.length ≤ S.1.length + (1 + nodess ks)
        simp only at this
        omega
theorem getIs_bound : ∀ (ts : List V) (S : List V × Bool) (m : Bool) (i : Nat), (getIs m i ts S).2.1.length ≤ S.1.length + nodess ts
  | [], S, m, i => by simp [getIs, nodess]
  | t :: ts, S, m, i => by
    rw [getIs_cons, nodess]
    have h1 : (stG (m && decide (i % 2 = 0)) t S).2.1.length ≤ S.1.length + t.nodes := by
      unfold stG
      split
      · have := keyR_length S.1 t
        rw [V.nodes_eq]
        show (keyR S.1 t).length ≤ _
        omega
      · exact getI_bound t S
    have h2 := getIs_bound ts (stG (m && decide (i % 2 = 0)) t S).2 m (i + 1)
    simp only
    omega
 end
theorem MOf.setBad {B m : Nat} {R : List V} {b : Bool} {o : Value} {w : World} (h : MOf B m R b o w) (b' : Bool) : MOf B m R b' o (w.setCell ⟨m, 1, none⟩ (.bool b')) :=
  { bm := h.bm
    hm := by rw [heap_setCell_same w m 1 _ _ _ h.hm]; rfl
    hr := h.hr.keep (by simp) (fun x hx _ => hx.elim False.elim (fun hx => heap_setCell_other _ _ _ _ (fun e => by have e' : x = m := e; rw [e'] at hx; exact h.om hx)))
    om := h.om }
theorem Touch.setBad {m : Nat} {o : Value} {w W : World} (h : Touch (ownM m o) (ownM m o) w W) (v : Value) : Touch (ownM m o) (ownM m o) w (W.setCell ⟨m, 1, none⟩ v) :=
  ⟨h.os, h.tape, h.output, by simpa using h.size, fun x hx hn => (heap_setCell_other _ _ _ _ (fun e => hn (.inl e))).trans (h.block x hx hn), h.new⟩
theorem MOf.cells {B m : Nat} {R : List V} {b : Bool} {o : Value} {w : World} (h : MOf B m R b o w) : w.cell? ⟨m, 0, none⟩ = some o ∧ w.cell? ⟨m, 1, none⟩ = some (.bool b) ∧ ∀ i, w.frozen? ⟨m, i, none⟩ = false :=
  ⟨by rw [cell_of_row _ _ _ _ _ (0, 0) h.hm]; rfl, by rw [cell_of_row _ _ _ _ _ (0, 0) h.hm]; rfl, fun i => frozen_of_row w m i _ _ h.hm⟩
theorem RepF.none {w : World} {v : Value} {ts : List V} (h : RepF w (fun _ => False) v ts) : ts = [] := by
  cases h with
  | mk a b off cap ts sls ha hc hm hb cells wfs kids =>
    cases ts with
    | nil => rfl
    | cons t ts => exact (hb (by simp)).2.elim
/-- an entry of what is remembered: its cells, and no kids -/
theorem MOf.row {B m : Nat} {R : List V} {b : Bool} {o : Value} {w : World} (h : MOf B m R b o w) {j : Nat} (hj : j < R.length) :
    ∃ g cap a5 n5 c5, o = .slice (some ⟨g, 0, none⟩) R.length cap ∧ Cells5 w g (j * 5) R[j] (.slice a5 n5 c5) ∧ R[j].wf ∧ R[j].kids = [] ∧ ∀ W F, RepF W F (.slice a5 n5 c5) R[j].kids := by
  obtain ⟨g, cap, rfl⟩ := prow_addr h.hr (by intro e; rw [e] at hj; simp at hj)
  have hk : R[j].kids = [] := by
    obtain ⟨sls, hp⟩ := h.hr
    exact (hp.kids j hj).none
  obtain ⟨a', b', off', cap', hv, ha, hc, hm, sls, hel⟩ := h.hr.rep.opened
  obtain ⟨rfl, -, rfl⟩ : some ⟨g, 0, none⟩ = a' ∧ R.length = R.length ∧ cap = cap' := by simpa using hv
  have h1 := (ha (by intro e; rw [e] at hj; simp at hj)).1
  simp only [Option.some.injEq, Addr.mk.injEq] at h1
  obtain ⟨rfl, rfl, -⟩ := h1
  have h2 := hel j hj
  obtain ⟨a5, c5, h5⟩ := h2.2.2.slice
  rw [h5] at h2
  refine ⟨g, cap, a5, _, c5, rfl, by have := h2.1; rwa [Nat.zero_add] at this, h2.2.1, hk, fun W F => ?_⟩
  have h6 := h2.2.2
  rw [hk] at h6 ⊢
  exact (RepS.ownAny h6 W F).toF
theorem grown_bad {B m z : Nat} {R : List V} {b0 : Bool} {om : Value} {w0 w X : World} {t : V} {sl : Value} (hm : MOf B m R b0 om w) (hB : w0.heap.size ≤ B) (hw : Below w0.heap.size w0 w) (hwf : t.wf) (hr : RepF w0 (fun x => x < w0.heap.size) sl t.kids)
    (hz : w.heap.size ≤ z) (hX : Below w.heap.size w X) (v0 v1 v2 v3 v4 : Value) : MemRetF w0.heap.size B m om w (t, (R, true)) (.returned (t.agg sl)) (set5 (X.setCell ⟨m, 1, none⟩ (.bool true)) z v0 v1 v2 v3 v4) := by
  have hmB : B ≤ m := hm.bm
  have hws := hw.size
  have hnz : ¬ ownM m om z := fun h => by have := (hm.lt _ h).2; omega
  refine ⟨sl, om, rfl, hwf, ?_, ((hm.stay hX).setBad true).set5 z hnz _ _ _ _ _, ((Touch.of_below hX).setBad _).set5 z hz _ _ _ _ _⟩
  have hb : Below w0.heap.size w0 (X.setCell ⟨m, 1, none⟩ (.bool true)) := (hw.trans (hX.mono hws)).setCell (by show w0.heap.size ≤ m; omega) _
  have hb2 : Below w0.heap.size w0 (set5 (X.setCell ⟨m, 1, none⟩ (.bool true)) z v0 v1 v2 v3 v4) := hb.trans ((below_set5 _ z v0 v1 v2 v3 v4).mono (by omega))
  exact (hr.stay hb2).mono (fun x hx _ => ⟨.inl hx, fun h => by have := (hm.lt _ h).1; omega⟩)
theorem enters_grown : ∀ (args : Array Value) (w : World), (callFunc 83 args).run Tryd.prog w = .ok (.enter 83 args) w := by
  intro args w
  have h1 : (Tryd.f83.name == "runtime.NumGoroutine") = false := by kernel_rfl
  have h2 : Tryd.f83.body.isNone = false := by kernel_rfl
  have h1' : ¬ Tryd.f83.name = "runtime.NumGoroutine" := by simpa using h1
  have h2' : ¬ Tryd.f83.body = none := by intro e; rw [e] at h2; cases h2
  simp [callFunc, Tryd.func83, go_sem, h1', h2']
set_option maxHeartbeats 2000000 in
theorem grown_any (B m : Nat) (w0 : World) (hB : w0.heap.size ≤ B) : ∀ (N : Nat) (v : Value) (t : V) (d : Int), t.sz < N → rightB t d = true → Rep w0 v t → t.sz ≤ 1048576 → ∀ (S : List V × Bool) (om : Value) (w : World), Below w0.heap.size w0 w → MOf B m S.1 S.2 om w → S.1.length + t.nodes ≤ 1000000 →
    Calls Tryd.prog 83 #[.pointer (some ⟨m, 0, none⟩), v] w (MemRetF w0.heap.size B m om w (getI t S)) := by
  intro N
  induction N with
  | zero => intro v t d h; omega
  | succ N ih =>
  intro v t d hN hright h hsz S om w hw hm hS
  have hts := V.sz_eq t
  have h0 := h
  obtain ⟨sl, rfl, hwf, hr⟩ := h
  have HMLT := Lib.hid (show ∀ x, ownM m om x → B ≤ x ∧ x < w.heap.size from hm.lt)
  have hws := hw.size
  have hlen : S.1.length ≤ 1000000 := by omega
  have HM := Lib.hid hm
  have HWF := Lib.hid hwf
  have BX := Lib.hid (Box.new w t.k t.n t.e t.s sl 28)
  by_cases htx : isTx t = true
  · have hkids := rightB_text hright htx
    have hq : decide (t.k = 5 ∨ t.k = 6) = true := htx
    have HF := Lib.hid (show getI t S = (t, (keepR S.1 t, S.2)) by rw [getI_eq, if_pos htx])
    have NT := Lib.hid (fun (W : World) (hW : Below w.heap.size w W) => note_any B m S.1 S.2 om t sl W (hm.stay hW) (by omega) hwf)
    have HOWN := Lib.hid (fun (W : World) (F : Nat → Prop) => show RepF W F sl t.kids by rw [hkids]; exact (RepS.ownAny (show RepS w0 sl [] from hkids ▸ hr) W F).toF)
    obtain ⟨sa, sn, sc, rfl⟩ : ∃ sa sn sc, sl = .slice sa sn sc := by obtain ⟨p, q, e⟩ := hr.slice; exact ⟨p, _, q, e⟩
    rw [HF.out]
    have HP := Lib.hid (show ∀ om' e w', e = .returned (.agg #[.int .i64 t.k, .int .i64 t.n, .int .i64 t.e, .string t.s, .slice sa sn sc]) → MOf B m (keepR S.1 t) S.2 om' w' → Touch (ownM m om) (ownM m om') w w' → MemRetF w0.heap.size B m om w (t, (keepR S.1 t, S.2)) e w' from
      fun om' e w' h1 h2 h3 => ⟨_, om', h1, HWF.out, HOWN.out _ _, h2, h3⟩)
    clear HF ih hright h0 hr hwf hm hts hsz hkids htx hN HOWN HWF
    unfold V.agg at NT ⊢
    go_enter Tryd.func83, Tryd.ntmps83
    go_wp2_with fail
    refine (isText_any _ _ _ _ _ _).mono ?_
    rintro x1 w1 ⟨h1, hb1⟩
    rw [hq] at h1
    subst h1
    have hz1 := hb1.size
    simp at hz1
    have hbw1 : Below w.heap.size w w1 := (by (repeat' (first | with_reducible exact Below.refl _ _ | with_reducible refine below_alloc ?_ _ ?_ | with_reducible refine Below.setCell ?_ ?_ _ | with_reducible refine Below.drew ?_ | with_reducible refine below_drewN ?_ _ | with_reducible refine below_step ?_ (by assumption) ?_ | with_reducible refine below_mark ?_ (by assumption) ?_)); all_goals (first | omega | (simp; done) | (simp; omega)))
    have B1 := Lib.hid ((BX.out.alloc (.cells #[.int .i64 0, .int .i64 0, .int .i64 0, .string ⟨#[]⟩, .slice none 0 0] 28)).stay hb1)
    have Z1 := Lib.hid (Box.stay (show Box ((w.alloc (.cells #[.int .i64 t.k, .int .i64 t.n, .int .i64 t.e, .string t.s, .slice sa sn sc] 28)).alloc (.cells #[.int .i64 0, .int .i64 0, .int .i64 0, .string ⟨#[]⟩, .slice none 0 0] 28)) (w.heap.size + 1) 0 0 0 ⟨#[]⟩ (.slice none 0 0) 28 by
      have := Box.new (w.alloc (.cells #[.int .i64 t.k, .int .i64 t.n, .int .i64 t.e, .string t.s, .slice sa sn sc] 28)) 0 0 0 ⟨#[]⟩ (.slice none 0 0) 28
      rwa [show (w.alloc (.cells #[.int .i64 t.k, .int .i64 t.n, .int .i64 t.e, .string t.s, .slice sa sn sc] 28)).heap.size = w.heap.size + 1 by simp] at this) hb1)
    obtain ⟨p0, p1, p2, p3, p4⟩ := B1.out.cells
    go_wp2_with fail
    refine (NT.out _ hbw1).mono ?_
    rintro x3 w3 ⟨rfl, om3, hm3, ht3⟩
    have hz3 := ht3.size
    have Z3 := Lib.hid (show Box w3 (w.heap.size + 1) 0 0 0 ⟨#[]⟩ (.slice none 0 0) 28 from (ht3.block _ (by omega) (fun h => by have := (HMLT.out _ h).2; omega)).trans Z1.out)
    have B3 := Lib.hid (show Box w3 w.heap.size t.k t.n t.e t.s (.slice sa sn sc) 28 from (ht3.block _ (by omega) (fun h => by have := (HMLT.out _ h).2; omega)).trans B1.out)
    obtain ⟨z0, z1, z2, z3, z4⟩ := Z3.out.cells
    have zf0 := Z3.out.free (i := 0); have zf1 := Z3.out.free (i := 1); have zf2 := Z3.out.free (i := 2); have zf3 := Z3.out.free (i := 3); have zf4 := Z3.out.free (i := 4)
    clear p0 p1 p2 p3 p4
    obtain ⟨p0, p1, p2, p3, p4⟩ := B3.out.cells
    have hnz : ¬ ownM m om3 (w.heap.size + 1) := fun h => by
      rcases ht3.new _ h with h | h
      · have := (HMLT.out _ h).2; omega
      · omega
    have HY := Lib.hid (hm3.set5 (w.heap.size + 1) hnz (.int .i64 t.k) (.int .i64 t.n) (.int .i64 t.e) (.string t.s) (.slice sa sn sc))
    have HV := Lib.hid (((Touch.of_below (A := ownM m om) hbw1).trans ht3).set5 (w.heap.size + 1) (by omega) (.int .i64 t.k) (.int .i64 t.n) (.int .i64 t.e) (.string t.s) (.slice sa sn sc))
    clear hm3 ht3 hb1 hbw1 NT HM HMLT hnz B1 B3 Z1 Z3 BX
    go_wp2_with fail
    refine bodyPost_ret (v := .agg #[.int .i64 t.k, .int .i64 t.n, .int .i64 t.e, .string t.s, .slice sa sn sc]) (by simp [results, Tryd.results83, go_sem, z0, z1, z2, z3, z4]) rfl (HP.out om3 _ _ rfl HY.out HV.out)
  · rw [Bool.not_eq_true] at htx
    have hq : decide (t.k = 5 ∨ t.k = 6) = false := htx
    by_cases hrf : isRf t = true
    · have hrf2 := hrf
      simp only [isRf, Bool.and_eq_true, decide_eq_true_eq] at hrf2
      obtain ⟨h9, h25⟩ := hrf2
      have hk1 : t.kids.length = 1 := by
        have h2 := hright
        rw [rightB_eq] at h2
        simp only [Bool.and_eq_true, ownB] at h2
        have h3 := h2.1.2.2
        rw [if_neg (by omega), if_pos h9] at h3
        simpa using h3
      obtain ⟨x, hx⟩ : ∃ x, t.kids = [x] := by
        cases hk : t.kids with
        | nil => rw [hk] at hk1; simp at hk1
        | cons x xs => rw [hk] at hk1; exact ⟨x, by rw [List.eq_nil_of_length_eq_zero (by simpa using hk1 : xs.length = 0)]⟩
      have HF := Lib.hid (show getI t S = if refB t S.1 then (refAt t S.1, S) else (t, (S.1, true)) by rw [getI_eq, if_neg (by rw [htx]; simp), if_pos hrf])
      have hB9 : refB t S.1 = decide (x.k = 3 ∧ 0 ≤ x.n ∧ x.n ≤ (S.1.length : Int) - 1) := by unfold refB; rw [hx]
      have hat : refAt t S.1 = S.1.getD x.n.toNat t := by unfold refAt; rw [hx]
      have HRT := Lib.hid hr.toF
      have hr1 : RepS w0 sl [x] := hx ▸ hr
      obtain ⟨a, b, off, cap, rfl, ha, hc, hmx, sls, hel⟩ := hr1.opened
      obtain rfl := (ha (by simp)).1
      have hbw := (ha (by simp)).2
      have hc0 : Cells5 w0 b off x (sls 0) ∧ x.wf ∧ RepS w0 (sls 0) x.kids := by have := hel 0 (by simp); simpa using this
      obtain ⟨a3, cap3, hs3⟩ := hc0.2.2.slice
      have CX := Lib.hid (fun (W : World) (hW : Below w.heap.size w W) => hc0.1.keep ((hw.trans (hW.mono hws)).block b hbw))
      rw [hs3] at CX
      have hagg : t.agg (.slice (some ⟨b, off, none⟩) [x].length cap) = .agg #[.int .i64 9, .int .i64 25, .int .i64 t.e, .string t.s, .slice (some ⟨b, off, none⟩) 1 cap] := by unfold V.agg; rw [h9, h25]; rfl
      have hbl : b < w.heap.size := by omega
      have hr9 : S.1.length ≤ 1000000 := hlen
      have hw64 : wrap64 ((S.1.length : Int) - 1) = (S.1.length : Int) - 1 := by unfold wrap64; omega
      obtain ⟨R, b0⟩ := S
      have HM2 := Lib.hid (show MOf B m R b0 om w from HM.out)
      have hmw := (HMLT.out m (.inl rfl)).2
      have hmB := (HMLT.out m (.inl rfl)).1
      have HPD := Lib.hid (fun (X : World) (hX : Below w.heap.size w X) (v0 v1 v2 v3 v4 : Value) => show MemRetF w0.heap.size B m om w (t, (R, true)) (.returned (.agg #[.int .i64 9, .int .i64 25, .int .i64 t.e, .string t.s, .slice (some ⟨b, off, none⟩) 1 cap])) (set5 (X.setCell ⟨m, 1, none⟩ (.bool true)) (w.heap.size + 1) v0 v1 v2 v3 v4) from
        hagg ▸ grown_bad HM2.out hB hw HWF.out HRT.out (by omega) hX v0 v1 v2 v3 v4)
      rw [HF.out, hB9, hat, hagg]
      clear HF hB9 hat hagg ih hright h0 hr hr1 hwf hm hts hsz hN htx hrf hk1 hel ha hc hmx hc0 hs3 HM
      have BX := Lib.hid (Box.new w 9 25 t.e t.s (.slice (some ⟨b, off, none⟩) 1 cap) 28)
      have BZ := Lib.hid (show Box ((w.alloc (.cells #[.int .i64 9, .int .i64 25, .int .i64 t.e, .string t.s, .slice (some ⟨b, off, none⟩) 1 cap] 28)).alloc (.cells #[.int .i64 0, .int .i64 0, .int .i64 0, .string ⟨#[]⟩, .slice none 0 0] 28)) (w.heap.size + 1) 0 0 0 ⟨#[]⟩ (.slice none 0 0) 28 by
        have := Box.new (w.alloc (.cells #[.int .i64 9, .int .i64 25, .int .i64 t.e, .string t.s, .slice (some ⟨b, off, none⟩) 1 cap] 28)) 0 0 0 ⟨#[]⟩ (.slice none 0 0) 28
        rwa [show (w.alloc (.cells #[.int .i64 9, .int .i64 25, .int .i64 t.e, .string t.s, .slice (some ⟨b, off, none⟩) 1 cap] 28)).heap.size = w.heap.size + 1 by simp] at this)
      simp only at hw64 hlen hS hr9 ⊢
      by_cases h3 : x.k = 3
      · have t1 : (x.k != 3) = false := by simpa using h3
        by_cases hin : 0 ≤ x.n ∧ x.n ≤ (R.length : Int) - 1
        · rw [if_pos (by simp [h3, hin])]
          obtain ⟨j, hj⟩ : ∃ j : Nat, x.n = (j : Int) := ⟨x.n.toNat, by omega⟩
          have hjl : j < R.length := by omega
          have hget : R.getD x.n.toNat t = R[j] := by rw [hj]; simp [List.getD_eq_getElem?_getD, hjl]
          rw [hget]
          obtain ⟨g, gcap, a5, n5, c5, rfl, hgc, hgw, hgk, hgr⟩ := HM2.out.row hjl
          have hgl := (HMLT.out g (.inr rfl)).2
          have LX := Lib.hid (fun (W : World) (hW : Below w.heap.size w W) => hgc.keep (hW.block g hgl))
          have HRJ := Lib.hid (show ∀ e w', e = .returned (.agg #[.int .i64 R[j].k, .int .i64 R[j].n, .int .i64 R[j].e, .string R[j].s, .slice a5 n5 c5]) → Below w.heap.size w w' → MemRetF w0.heap.size B m (.slice (some ⟨g, 0, none⟩) R.length gcap) w (R[j], (R, b0)) e w' from
            fun e w' h1 h2 => ⟨_, _, h1, hgw, hgr _ _, HM2.out.stay h2, Touch.of_below h2⟩)
          have hj1 : (0 : Int) ≤ (j : Int) := by omega
          have hj2 : (j : Int) ≤ (R.length : Int) - 1 := by omega
          have hj3 : (0 : Int) ≤ (j : Int) ∧ (j : Int) < R.length := by omega
          generalize R[j] = r at *
          rw [h3] at t1
          clear hgc hgr hgw hgk hget hin
          go_enter Tryd.func83, Tryd.ntmps83
          go_wp2_with fail
          refine (isText_any _ _ _ _ _ _).mono ?_
          rintro x1 w1 ⟨h1, hb1⟩
          rw [show decide ((9 : Int) = 5 ∨ (9 : Int) = 6) = false from by decide] at h1
          subst h1
          have hz1 := hb1.size
          simp at hz1
          have hbw1 : Below w.heap.size w w1 := (by (repeat' (first | with_reducible exact Below.refl _ _ | with_reducible refine below_alloc ?_ _ ?_ | with_reducible refine Below.setCell ?_ ?_ _ | with_reducible refine Below.drew ?_ | with_reducible refine below_drewN ?_ _ | with_reducible refine below_step ?_ (by assumption) ?_ | with_reducible refine below_mark ?_ (by assumption) ?_)); all_goals (first | omega | (simp; done) | (simp; omega)))
          have BX1 := Lib.hid ((BX.out.alloc (.cells #[.int .i64 0, .int .i64 0, .int .i64 0, .string ⟨#[]⟩, .slice none 0 0] 28)).stay hb1)
          have BZ1 := Lib.hid (BZ.out.stay hb1)
          obtain ⟨p0, p1, p2, p3, p4⟩ := BX1.out.cells
          obtain ⟨c0, c1, c2, c3, c4⟩ := CX.out w1 hbw1
          obtain ⟨z0, z1, z2, z3, z4⟩ := BZ1.out.cells
          have zf0 := BZ1.out.free (i := 0); have zf1 := BZ1.out.free (i := 1); have zf2 := BZ1.out.free (i := 2); have zf3 := BZ1.out.free (i := 3); have zf4 := BZ1.out.free (i := 4)
          obtain ⟨mc0, mc1, mcf⟩ := (HM2.out.stay hbw1).cells
          have mf1 := mcf 1
          have hn1 : w.heap.size ≠ w1.heap.size := by omega
          have hn2 : w1.heap.size ≠ w.heap.size := by omega
          have hn3 : w.heap.size < w1.heap.size := by omega
          have hn4 : w.heap.size + 1 ≠ w1.heap.size := by omega
          have hn5 : w1.heap.size ≠ w.heap.size + 1 := by omega
          have hn6 : w.heap.size + 1 < w1.heap.size := by omega
          have hm1 : m ≠ w1.heap.size := by omega
          have hm2 : w1.heap.size ≠ m := by omega
          have hm3 : m < w1.heap.size := by omega
          have hm4 : m ≠ w.heap.size + 1 := by omega
          have hm5 : w.heap.size + 1 ≠ m := by omega
          have hm6 : m ≠ w.heap.size := by omega
          have hm7 : w.heap.size ≠ m := by omega
          clear mcf hb1
          obtain ⟨d0, d1, d2, d3, d4⟩ := LX.out w1 hbw1
          have hg1 : g ≠ w1.heap.size := by omega
          have hg2 : w1.heap.size ≠ g := by omega
          have hg3 : g < w1.heap.size := by omega
          have hg7 : g ≠ w.heap.size + 1 := by omega
          have hg8 : w.heap.size + 1 ≠ g := by omega
          rw [h3] at c0
          rw [hj] at c1
          have hIT := Lib.hid (fun W => within_yes (j : Int) 0 ((R.length : Int) - 1) W hj1 hj2)
          clear hj
          go_wp2_with fail
          go_quiet ((go_at_call 92; refine Calls.quiet_of_same (hIT.out _)))
          go_wp2_with fail
          go_region
          go_wp2_with fail
          refine bodyPost_ret (v := .agg #[.int .i64 r.k, .int .i64 r.n, .int .i64 r.e, .string r.s, .slice a5 n5 c5]) (by simp [results, Tryd.results83, go_sem, z0, z1, z2, z3, z4, hn4, hn5, hn6]) rfl (HRJ.out _ _ rfl ?_)
          exact (by (repeat' (first | with_reducible exact Below.refl _ _ | with_reducible refine below_alloc ?_ _ ?_ | with_reducible refine Below.setCell ?_ ?_ _ | with_reducible refine Below.drew ?_ | with_reducible refine below_drewN ?_ _ | with_reducible refine below_step ?_ (by assumption) ?_ | with_reducible refine below_mark ?_ (by assumption) ?_)); all_goals (first | omega | (simp; done) | (simp; omega)))
        · rw [if_neg (by simp only [decide_eq_true_eq]; exact fun h => hin h.2)]
          rw [h3] at t1
          have hno : x.n < 0 ∨ (R.length : Int) - 1 < x.n := by omega
          obtain ⟨la, lc, rfl⟩ := HM2.out.hr.slice
          have hIT := Lib.hid (fun W => within_no x.n 0 ((R.length : Int) - 1) W hno)
          go_enter Tryd.func83, Tryd.ntmps83
          go_wp2_with fail
          refine (isText_any _ _ _ _ _ _).mono ?_
          rintro x1 w1 ⟨h1, hb1⟩
          rw [show decide ((9 : Int) = 5 ∨ (9 : Int) = 6) = false from by decide] at h1
          subst h1
          have hz1 := hb1.size
          simp at hz1
          have hbw1 : Below w.heap.size w w1 := (by (repeat' (first | with_reducible exact Below.refl _ _ | with_reducible refine below_alloc ?_ _ ?_ | with_reducible refine Below.setCell ?_ ?_ _ | with_reducible refine Below.drew ?_ | with_reducible refine below_drewN ?_ _ | with_reducible refine below_step ?_ (by assumption) ?_ | with_reducible refine below_mark ?_ (by assumption) ?_)); all_goals (first | omega | (simp; done) | (simp; omega)))
          have BX1 := Lib.hid ((BX.out.alloc (.cells #[.int .i64 0, .int .i64 0, .int .i64 0, .string ⟨#[]⟩, .slice none 0 0] 28)).stay hb1)
          have BZ1 := Lib.hid (BZ.out.stay hb1)
          obtain ⟨p0, p1, p2, p3, p4⟩ := BX1.out.cells
          obtain ⟨c0, c1, c2, c3, c4⟩ := CX.out w1 hbw1
          obtain ⟨z0, z1, z2, z3, z4⟩ := BZ1.out.cells
          have zf0 := BZ1.out.free (i := 0); have zf1 := BZ1.out.free (i := 1); have zf2 := BZ1.out.free (i := 2); have zf3 := BZ1.out.free (i := 3); have zf4 := BZ1.out.free (i := 4)
          obtain ⟨mc0, mc1, mcf⟩ := (HM2.out.stay hbw1).cells
          have mf1 := mcf 1
          have hn1 : w.heap.size ≠ w1.heap.size := by omega
          have hn2 : w1.heap.size ≠ w.heap.size := by omega
          have hn3 : w.heap.size < w1.heap.size := by omega
          have hn4 : w.heap.size + 1 ≠ w1.heap.size := by omega
          have hn5 : w1.heap.size ≠ w.heap.size + 1 := by omega
          have hn6 : w.heap.size + 1 < w1.heap.size := by omega
          have hm1 : m ≠ w1.heap.size := by omega
          have hm2 : w1.heap.size ≠ m := by omega
          have hm3 : m < w1.heap.size := by omega
          have hm4 : m ≠ w.heap.size + 1 := by omega
          have hm5 : w.heap.size + 1 ≠ m := by omega
          have hm6 : m ≠ w.heap.size := by omega
          have hm7 : w.heap.size ≠ m := by omega
          clear mcf hb1
          rw [h3] at c0
          go_wp2_with fail
          go_quiet ((go_at_call 92; refine Calls.quiet_of_same (hIT.out _)))
          go_wp2_with fail
          refine bodyPost_ret (v := .agg #[.int .i64 9, .int .i64 25, .int .i64 t.e, .string t.s, .slice (some ⟨b, off, none⟩) 1 cap]) (by simp [results, Tryd.results83, go_sem, z0, z1, z2, z3, z4, hn4, hn5, hn6]) rfl (HPD.out _ ((by (repeat' (first | with_reducible exact Below.refl _ _ | with_reducible refine below_alloc ?_ _ ?_ | with_reducible refine Below.setCell ?_ ?_ _ | with_reducible refine Below.drew ?_ | with_reducible refine below_drewN ?_ _ | with_reducible refine below_step ?_ (by assumption) ?_ | with_reducible refine below_mark ?_ (by assumption) ?_)); all_goals (first | omega | (simp; done) | (simp; omega)))) _ _ _ _ _)
      · rw [if_neg (by simp only [decide_eq_true_eq]; exact fun h => h3 h.1)]
        have t1 : (x.k != 3) = true := by simpa using h3
        go_enter Tryd.func83, Tryd.ntmps83
        go_wp2_with fail
        refine (isText_any _ _ _ _ _ _).mono ?_
        rintro x1 w1 ⟨h1, hb1⟩
        rw [show decide ((9 : Int) = 5 ∨ (9 : Int) = 6) = false from by decide] at h1
        subst h1
        have hz1 := hb1.size
        simp at hz1
        have hbw1 : Below w.heap.size w w1 := (by (repeat' (first | with_reducible exact Below.refl _ _ | with_reducible refine below_alloc ?_ _ ?_ | with_reducible refine Below.setCell ?_ ?_ _ | with_reducible refine Below.drew ?_ | with_reducible refine below_drewN ?_ _ | with_reducible refine below_step ?_ (by assumption) ?_ | with_reducible refine below_mark ?_ (by assumption) ?_)); all_goals (first | omega | (simp; done) | (simp; omega)))
        have BX1 := Lib.hid ((BX.out.alloc (.cells #[.int .i64 0, .int .i64 0, .int .i64 0, .string ⟨#[]⟩, .slice none 0 0] 28)).stay hb1)
        have BZ1 := Lib.hid (BZ.out.stay hb1)
        obtain ⟨p0, p1, p2, p3, p4⟩ := BX1.out.cells
        obtain ⟨c0, c1, c2, c3, c4⟩ := CX.out w1 hbw1
        obtain ⟨z0, z1, z2, z3, z4⟩ := BZ1.out.cells
        have zf0 := BZ1.out.free (i := 0); have zf1 := BZ1.out.free (i := 1); have zf2 := BZ1.out.free (i := 2); have zf3 := BZ1.out.free (i := 3); have zf4 := BZ1.out.free (i := 4)
        obtain ⟨mc0, mc1, mcf⟩ := (HM2.out.stay hbw1).cells
        have mf1 := mcf 1
        have hn1 : w.heap.size ≠ w1.heap.size := by omega
        have hn2 : w1.heap.size ≠ w.heap.size := by omega
        have hn3 : w.heap.size < w1.heap.size := by omega
        have hn4 : w.heap.size + 1 ≠ w1.heap.size := by omega
        have hn5 : w1.heap.size ≠ w.heap.size + 1 := by omega
        have hn6 : w.heap.size + 1 < w1.heap.size := by omega
        have hm1 : m ≠ w1.heap.size := by omega
        have hm2 : w1.heap.size ≠ m := by omega
        have hm3 : m < w1.heap.size := by omega
        have hm4 : m ≠ w.heap.size + 1 := by omega
        have hm5 : w.heap.size + 1 ≠ m := by omega
        have hm6 : m ≠ w.heap.size := by omega
        have hm7 : w.heap.size ≠ m := by omega
        clear mcf hb1
        go_wp2_with fail
        go_quiet (fail)
        go_wp2_with fail
        refine bodyPost_ret (v := .agg #[.int .i64 9, .int .i64 25, .int .i64 t.e, .string t.s, .slice (some ⟨b, off, none⟩) 1 cap]) (by simp [results, Tryd.results83, go_sem, z0, z1, z2, z3, z4, hn4, hn5, hn6]) rfl (HPD.out _ ((by (repeat' (first | with_reducible exact Below.refl _ _ | with_reducible refine below_alloc ?_ _ ?_ | with_reducible refine Below.setCell ?_ ?_ _ | with_reducible refine Below.drew ?_ | with_reducible refine below_drewN ?_ _ | with_reducible refine below_step ?_ (by assumption) ?_ | with_reducible refine below_mark ?_ (by assumption) ?_)); all_goals (first | omega | (simp; done) | (simp; omega)))) _ _ _ _ _)
    · rw [Bool.not_eq_true] at hrf
      have HF := Lib.hid (show getI t S = (.mk t.k t.n t.e t.s (kdS getI (decide (t.k = 8)) 0 t.kids (S.1, S.2 || (decide (t.k = 9) && decide (t.n = 256)))).1, (kdS getI (decide (t.k = 8)) 0 t.kids (S.1, S.2 || (decide (t.k = 9) && decide (t.n = 256)))).2) by
        rw [getI_eq, if_neg (by rw [htx]; simp), if_neg (by rw [hrf]; simp), kdS_get])
      have KD := Lib.hid (fun (b : Bool) (W : World) (hW : Below w0.heap.size w0 W) (hm' : MOf B m S.1 b om W) => kids_anyF B m 83 enters_grown getI getI_bound w0 hB (t.agg sl) t h0 hsz
        (fun j hj x S' om' W' hx hW' hm' hS' => ih x t.kids[j] (d - 1) (by have h1 := szs_mem (List.getElem_mem hj); omega) (rightsB_at (right_kids hright) j hj) hx (by have h1 := szs_mem (List.getElem_mem hj); omega) S' om' W' hW' hm' hS') (S.1, b) om W hW hm' hS)
      rw [HF.out]
      have h25 : t.k = 9 → ¬ t.n = 25 := fun h9 e => by simp [isRf, h9, e] at hrf
      obtain ⟨R, b0⟩ := S
      have HM2 := Lib.hid (show MOf B m R b0 om w from HM.out)
      have hmw := (HMLT.out m (.inl rfl)).2
      have hmB := (HMLT.out m (.inl rfl)).1
      have hm4 : m ≠ w.heap.size + 1 := by omega
      have hm5 : w.heap.size + 1 ≠ m := by omega
      have hm6 : m ≠ w.heap.size := by omega
      have hm7 : w.heap.size ≠ m := by omega
      have hcase : (b0 = true ∧ (t.k != 9) = true) ∨ (b0 = true ∧ (t.k != 9) = false ∧ (t.n != 25) = true) ∨ (b0 = false ∧ (t.k != 9) = true ∧ (t.k == 9) = false)
          ∨ (b0 = false ∧ (t.k != 9) = false ∧ (t.n != 25) = true ∧ (t.k == 9) = true ∧ (t.n == 256) = false) ∨ (b0 = false ∧ (t.k != 9) = false ∧ (t.n != 25) = true ∧ (t.k == 9) = true ∧ (t.n == 256) = true) := by
        by_cases h9 : t.k = 9
        · have hn := h25 h9
          cases b0
          · by_cases h6 : t.n = 256
            · exact .inr (.inr (.inr (.inr ⟨rfl, by simpa using h9, by simpa using hn, by simpa using h9, by simpa using h6⟩)))
            · exact .inr (.inr (.inr (.inl ⟨rfl, by simpa using h9, by simpa using hn, by simpa using h9, by simpa using h6⟩)))
          · exact .inr (.inl ⟨rfl, by simpa using h9, by simpa using hn⟩)
        · cases b0
          · exact .inr (.inr (.inl ⟨rfl, by simpa using h9, by simpa using h9⟩))
          · exact .inl ⟨rfl, by simpa using h9⟩
      obtain ⟨sa, sn, sc, rfl⟩ : ∃ sa sn sc, sl = .slice sa sn sc := by obtain ⟨p, q, e⟩ := hr.slice; exact ⟨p, _, q, e⟩
      clear HF ih hright h0 hr hwf hm hts hsz hN htx hrf HWF h25 HM hlen hS
      unfold V.agg at KD ⊢
      rcases hcase with ⟨rfl, t1⟩ | ⟨rfl, t1, t2⟩ | ⟨rfl, t1, t3⟩ | ⟨rfl, t1, t2, t3, t4⟩ | ⟨rfl, t1, t2, t3, t4⟩
      · have hbv : (true || (decide (t.k = 9) && decide (t.n = 256))) = true := by simp
        rw [hbv]
        have KD := Lib.hid (fun W hW hm' => KD.out true W hW hm')
        obtain ⟨L, S2, hL⟩ : ∃ L S2, kdS getI (decide (t.k = 8)) 0 t.kids (R, true) = (L, S2) := ⟨_, _, rfl⟩
        rw [hL] at KD ⊢
        clear hL hbv
        go_enter Tryd.func83, Tryd.ntmps83
        go_wp2_with fail
        refine (isText_any _ _ _ _ _ _).mono ?_
        rintro x1 w1 ⟨h1, hb1⟩
        rw [hq] at h1
        subst h1
        have hz1 := hb1.size
        simp at hz1
        have hbw1 : Below w.heap.size w w1 := (by (repeat' (first | with_reducible exact Below.refl _ _ | with_reducible refine below_alloc ?_ _ ?_ | with_reducible refine Below.setCell ?_ ?_ _ | with_reducible refine Below.drew ?_ | with_reducible refine below_drewN ?_ _ | with_reducible refine below_step ?_ (by assumption) ?_ | with_reducible refine below_mark ?_ (by assumption) ?_)); all_goals (first | omega | (simp; done) | (simp; omega)))
        have B1 := Lib.hid ((BX.out.alloc (.cells #[.int .i64 0, .int .i64 0, .int .i64 0, .string ⟨#[]⟩, .slice none 0 0] 28)).stay hb1)
        have Z1 := Lib.hid (Box.stay (show Box ((w.alloc (.cells #[.int .i64 t.k, .int .i64 t.n, .int .i64 t.e, .string t.s, .slice sa sn sc] 28)).alloc (.cells #[.int .i64 0, .int .i64 0, .int .i64 0, .string ⟨#[]⟩, .slice none 0 0] 28)) (w.heap.size + 1) 0 0 0 ⟨#[]⟩ (.slice none 0 0) 28 by
          have := Box.new (w.alloc (.cells #[.int .i64 t.k, .int .i64 t.n, .int .i64 t.e, .string t.s, .slice sa sn sc] 28)) 0 0 0 ⟨#[]⟩ (.slice none 0 0) 28
          rwa [show (w.alloc (.cells #[.int .i64 t.k, .int .i64 t.n, .int .i64 t.e, .string t.s, .slice sa sn sc] 28)).heap.size = w.heap.size + 1 by simp] at this) hb1)
        obtain ⟨p0, p1, p2, p3, p4⟩ := B1.out.cells
        obtain ⟨mc0, mc1, mcf⟩ := (HM2.out.stay hbw1).cells
        have mf1 := mcf 1
        have hz5 : (w1.setCell ⟨m, 1, none⟩ (.bool true)).heap.size = w1.heap.size := by simp
        have T5 := Lib.hid ((Touch.of_below (A := ownM m om) hbw1).setBad (.bool true))
        have M5 := Lib.hid ((HM2.out.stay hbw1).setBad true)
        have Z5 := Lib.hid ((heap_setCell_other w1 ⟨m, 1, none⟩ (w.heap.size + 1) (.bool true) (by show w.heap.size + 1 ≠ m; omega)).trans Z1.out)
        have W5 := Lib.hid (show Below w0.heap.size w0 (w1.setCell ⟨m, 1, none⟩ (.bool true)) from (hw.trans (hbw1.mono hws)).setCell (by show w0.heap.size ≤ m; omega) _)
        clear mcf hb1
        go_wp2_with fail
        refine (KD.out _ W5.out M5.out).mono ?_
        rintro x3 w3 ⟨s2, om3, rfl, uwf, ho, hm3, ht3⟩
        obtain ⟨oa, on, oc, rfl⟩ : ∃ sa sn sc, s2 = .slice sa sn sc := by obtain ⟨p, q, e⟩ := ho.slice; exact ⟨p, _, q, e⟩
        unfold V.agg
        have hz3 := ht3.size
        rw [hz5] at hz3
        have Z3 := Lib.hid (show Box w3 (w.heap.size + 1) 0 0 0 ⟨#[]⟩ (.slice none 0 0) 28 from (ht3.block _ (by rw [hz5]; omega) (fun h => by have := (HMLT.out _ h).2; omega)).trans Z5.out)
        obtain ⟨z0, z1, z2, z3, z4⟩ := Z3.out.cells
        have zf0 := Z3.out.free (i := 0); have zf1 := Z3.out.free (i := 1); have zf2 := Z3.out.free (i := 2); have zf3 := Z3.out.free (i := 3); have zf4 := Z3.out.free (i := 4)
        have hnz : ¬ ownM m om3 (w.heap.size + 1) := fun h => by
          rcases ht3.new _ h with h | h
          · have := (HMLT.out _ h).2; omega
          · rw [hz5] at h; omega
        have HX := Lib.hid (ho.set5 (w.heap.size + 1) (fun h => by rcases h.1 with h1 | h1; omega; rw [hz5] at h1; omega) (.int .i64 t.k) (.int .i64 t.n) (.int .i64 t.e) (.string t.s) (.slice oa on oc))
        have HY := Lib.hid (hm3.set5 (w.heap.size + 1) hnz (.int .i64 t.k) (.int .i64 t.n) (.int .i64 t.e) (.string t.s) (.slice oa on oc))
        have HV := Lib.hid ((T5.out.trans ht3).set5 (w.heap.size + 1) (by omega) (.int .i64 t.k) (.int .i64 t.n) (.int .i64 t.e) (.string t.s) (.slice oa on oc))
        have HL := Lib.hid (show ∀ x, (w1.setCell ⟨m, 1, none⟩ (.bool true)).heap.size ≤ x → w.heap.size ≤ x from fun x h => by rw [hz5] at h; omega)
        clear hm3 ht3 hbw1 KD HMLT hnz B1 Z1 Z5 T5 M5 W5 Z3 BX ho p0 p1 p2 p3 p4 mc0 mc1 mf1 hz5
        go_wp2_with fail
        refine bodyPost_ret (v := .agg #[.int .i64 t.k, .int .i64 t.n, .int .i64 t.e, .string t.s, .slice oa on oc]) (by simp [results, Tryd.results83, go_sem, z0, z1, z2, z3, z4, V.k, V.n, V.e, V.s]) rfl ⟨_, om3, rfl, uwf, HX.out.mono (fun x hx _ => ⟨hx.1.imp id (fun h => HL.out x h), hx.2⟩), HY.out, HV.out⟩
      · have hbv : (true || (decide (t.k = 9) && decide (t.n = 256))) = true := by simp
        rw [hbv]
        have KD := Lib.hid (fun W hW hm' => KD.out true W hW hm')
        obtain ⟨L, S2, hL⟩ : ∃ L S2, kdS getI (decide (t.k = 8)) 0 t.kids (R, true) = (L, S2) := ⟨_, _, rfl⟩
        rw [hL] at KD ⊢
        clear hL hbv
        go_enter Tryd.func83, Tryd.ntmps83
        go_wp2_with fail
        refine (isText_any _ _ _ _ _ _).mono ?_
        rintro x1 w1 ⟨h1, hb1⟩
        rw [hq] at h1
        subst h1
        have hz1 := hb1.size
        simp at hz1
        have hbw1 : Below w.heap.size w w1 := (by (repeat' (first | with_reducible exact Below.refl _ _ | with_reducible refine below_alloc ?_ _ ?_ | with_reducible refine Below.setCell ?_ ?_ _ | with_reducible refine Below.drew ?_ | with_reducible refine below_drewN ?_ _ | with_reducible refine below_step ?_ (by assumption) ?_ | with_reducible refine below_mark ?_ (by assumption) ?_)); all_goals (first | omega | (simp; done) | (simp; omega)))
        have B1 := Lib.hid ((BX.out.alloc (.cells #[.int .i64 0, .int .i64 0, .int .i64 0, .string ⟨#[]⟩, .slice none 0 0] 28)).stay hb1)
        have Z1 := Lib.hid (Box.stay (show Box ((w.alloc (.cells #[.int .i64 t.k, .int .i64 t.n, .int .i64 t.e, .string t.s, .slice sa sn sc] 28)).alloc (.cells #[.int .i64 0, .int .i64 0, .int .i64 0, .string ⟨#[]⟩, .slice none 0 0] 28)) (w.heap.size + 1) 0 0 0 ⟨#[]⟩ (.slice none 0 0) 28 by
          have := Box.new (w.alloc (.cells #[.int .i64 t.k, .int .i64 t.n, .int .i64 t.e, .string t.s, .slice sa sn sc] 28)) 0 0 0 ⟨#[]⟩ (.slice none 0 0) 28
          rwa [show (w.alloc (.cells #[.int .i64 t.k, .int .i64 t.n, .int .i64 t.e, .string t.s, .slice sa sn sc] 28)).heap.size = w.heap.size + 1 by simp] at this) hb1)
        obtain ⟨p0, p1, p2, p3, p4⟩ := B1.out.cells
        obtain ⟨mc0, mc1, mcf⟩ := (HM2.out.stay hbw1).cells
        have mf1 := mcf 1
        have hz5 : (w1.setCell ⟨m, 1, none⟩ (.bool true)).heap.size = w1.heap.size := by simp
        have T5 := Lib.hid ((Touch.of_below (A := ownM m om) hbw1).setBad (.bool true))
        have M5 := Lib.hid ((HM2.out.stay hbw1).setBad true)
        have Z5 := Lib.hid ((heap_setCell_other w1 ⟨m, 1, none⟩ (w.heap.size + 1) (.bool true) (by show w.heap.size + 1 ≠ m; omega)).trans Z1.out)
        have W5 := Lib.hid (show Below w0.heap.size w0 (w1.setCell ⟨m, 1, none⟩ (.bool true)) from (hw.trans (hbw1.mono hws)).setCell (by show w0.heap.size ≤ m; omega) _)
        clear mcf hb1
        go_wp2_with fail
        refine (KD.out _ W5.out M5.out).mono ?_
        rintro x3 w3 ⟨s2, om3, rfl, uwf, ho, hm3, ht3⟩
        obtain ⟨oa, on, oc, rfl⟩ : ∃ sa sn sc, s2 = .slice sa sn sc := by obtain ⟨p, q, e⟩ := ho.slice; exact ⟨p, _, q, e⟩
        unfold V.agg
        have hz3 := ht3.size
        rw [hz5] at hz3
        have Z3 := Lib.hid (show Box w3 (w.heap.size + 1) 0 0 0 ⟨#[]⟩ (.slice none 0 0) 28 from (ht3.block _ (by rw [hz5]; omega) (fun h => by have := (HMLT.out _ h).2; omega)).trans Z5.out)
        obtain ⟨z0, z1, z2, z3, z4⟩ := Z3.out.cells
        have zf0 := Z3.out.free (i := 0); have zf1 := Z3.out.free (i := 1); have zf2 := Z3.out.free (i := 2); have zf3 := Z3.out.free (i := 3); have zf4 := Z3.out.free (i := 4)
        have hnz : ¬ ownM m om3 (w.heap.size + 1) := fun h => by
          rcases ht3.new _ h with h | h
          · have := (HMLT.out _ h).2; omega
          · rw [hz5] at h; omega
        have HX := Lib.hid (ho.set5 (w.heap.size + 1) (fun h => by rcases h.1 with h1 | h1; omega; rw [hz5] at h1; omega) (.int .i64 t.k) (.int .i64 t.n) (.int .i64 t.e) (.string t.s) (.slice oa on oc))
        have HY := Lib.hid (hm3.set5 (w.heap.size + 1) hnz (.int .i64 t.k) (.int .i64 t.n) (.int .i64 t.e) (.string t.s) (.slice oa on oc))
        have HV := Lib.hid ((T5.out.trans ht3).set5 (w.heap.size + 1) (by omega) (.int .i64 t.k) (.int .i64 t.n) (.int .i64 t.e) (.string t.s) (.slice oa on oc))
        have HL := Lib.hid (show ∀ x, (w1.setCell ⟨m, 1, none⟩ (.bool true)).heap.size ≤ x → w.heap.size ≤ x from fun x h => by rw [hz5] at h; omega)
        clear hm3 ht3 hbw1 KD HMLT hnz B1 Z1 Z5 T5 M5 W5 Z3 BX ho p0 p1 p2 p3 p4 mc0 mc1 mf1 hz5
        go_wp2_with fail
        refine bodyPost_ret (v := .agg #[.int .i64 t.k, .int .i64 t.n, .int .i64 t.e, .string t.s, .slice oa on oc]) (by simp [results, Tryd.results83, go_sem, z0, z1, z2, z3, z4, V.k, V.n, V.e, V.s]) rfl ⟨_, om3, rfl, uwf, HX.out.mono (fun x hx _ => ⟨hx.1.imp id (fun h => HL.out x h), hx.2⟩), HY.out, HV.out⟩
      · have hbv : (false || (decide (t.k = 9) && decide (t.n = 256))) = false := by 
            have h9 : ¬ t.k = 9 := by simpa using t1
            simp [h9]
        rw [hbv]
        have KD := Lib.hid (fun W hW hm' => KD.out false W hW hm')
        obtain ⟨L, S2, hL⟩ : ∃ L S2, kdS getI (decide (t.k = 8)) 0 t.kids (R, false) = (L, S2) := ⟨_, _, rfl⟩
        rw [hL] at KD ⊢
        clear hL hbv
        go_enter Tryd.func83, Tryd.ntmps83
        go_wp2_with fail
        refine (isText_any _ _ _ _ _ _).mono ?_
        rintro x1 w1 ⟨h1, hb1⟩
        rw [hq] at h1
        subst h1
        have hz1 := hb1.size
        simp at hz1
        have hbw1 : Below w.heap.size w w1 := (by (repeat' (first | with_reducible exact Below.refl _ _ | with_reducible refine below_alloc ?_ _ ?_ | with_reducible refine Below.setCell ?_ ?_ _ | with_reducible refine Below.drew ?_ | with_reducible refine below_drewN ?_ _ | with_reducible refine below_step ?_ (by assumption) ?_ | with_reducible refine below_mark ?_ (by assumption) ?_)); all_goals (first | omega | (simp; done) | (simp; omega)))
        have B1 := Lib.hid ((BX.out.alloc (.cells #[.int .i64 0, .int .i64 0, .int .i64 0, .string ⟨#[]⟩, .slice none 0 0] 28)).stay hb1)
        have Z1 := Lib.hid (Box.stay (show Box ((w.alloc (.cells #[.int .i64 t.k, .int .i64 t.n, .int .i64 t.e, .string t.s, .slice sa sn sc] 28)).alloc (.cells #[.int .i64 0, .int .i64 0, .int .i64 0, .string ⟨#[]⟩, .slice none 0 0] 28)) (w.heap.size + 1) 0 0 0 ⟨#[]⟩ (.slice none 0 0) 28 by
          have := Box.new (w.alloc (.cells #[.int .i64 t.k, .int .i64 t.n, .int .i64 t.e, .string t.s, .slice sa sn sc] 28)) 0 0 0 ⟨#[]⟩ (.slice none 0 0) 28
          rwa [show (w.alloc (.cells #[.int .i64 t.k, .int .i64 t.n, .int .i64 t.e, .string t.s, .slice sa sn sc] 28)).heap.size = w.heap.size + 1 by simp] at this) hb1)
        obtain ⟨p0, p1, p2, p3, p4⟩ := B1.out.cells
        obtain ⟨mc0, mc1, mcf⟩ := (HM2.out.stay hbw1).cells
        have mf1 := mcf 1
        have hz5 : (w1.setCell ⟨m, 1, none⟩ (.bool false)).heap.size = w1.heap.size := by simp
        have T5 := Lib.hid ((Touch.of_below (A := ownM m om) hbw1).setBad (.bool false))
        have M5 := Lib.hid ((HM2.out.stay hbw1).setBad false)
        have Z5 := Lib.hid ((heap_setCell_other w1 ⟨m, 1, none⟩ (w.heap.size + 1) (.bool false) (by show w.heap.size + 1 ≠ m; omega)).trans Z1.out)
        have W5 := Lib.hid (show Below w0.heap.size w0 (w1.setCell ⟨m, 1, none⟩ (.bool false)) from (hw.trans (hbw1.mono hws)).setCell (by show w0.heap.size ≤ m; omega) _)
        clear mcf hb1
        go_wp2_with fail
        refine (KD.out _ W5.out M5.out).mono ?_
        rintro x3 w3 ⟨s2, om3, rfl, uwf, ho, hm3, ht3⟩
        obtain ⟨oa, on, oc, rfl⟩ : ∃ sa sn sc, s2 = .slice sa sn sc := by obtain ⟨p, q, e⟩ := ho.slice; exact ⟨p, _, q, e⟩
        unfold V.agg
        have hz3 := ht3.size
        rw [hz5] at hz3
        have Z3 := Lib.hid (show Box w3 (w.heap.size + 1) 0 0 0 ⟨#[]⟩ (.slice none 0 0) 28 from (ht3.block _ (by rw [hz5]; omega) (fun h => by have := (HMLT.out _ h).2; omega)).trans Z5.out)
        obtain ⟨z0, z1, z2, z3, z4⟩ := Z3.out.cells
        have zf0 := Z3.out.free (i := 0); have zf1 := Z3.out.free (i := 1); have zf2 := Z3.out.free (i := 2); have zf3 := Z3.out.free (i := 3); have zf4 := Z3.out.free (i := 4)
        have hnz : ¬ ownM m om3 (w.heap.size + 1) := fun h => by
          rcases ht3.new _ h with h | h
          · have := (HMLT.out _ h).2; omega
          · rw [hz5] at h; omega
        have HX := Lib.hid (ho.set5 (w.heap.size + 1) (fun h => by rcases h.1 with h1 | h1; omega; rw [hz5] at h1; omega) (.int .i64 t.k) (.int .i64 t.n) (.int .i64 t.e) (.string t.s) (.slice oa on oc))
        have HY := Lib.hid (hm3.set5 (w.heap.size + 1) hnz (.int .i64 t.k) (.int .i64 t.n) (.int .i64 t.e) (.string t.s) (.slice oa on oc))
        have HV := Lib.hid ((T5.out.trans ht3).set5 (w.heap.size + 1) (by omega) (.int .i64 t.k) (.int .i64 t.n) (.int .i64 t.e) (.string t.s) (.slice oa on oc))
        have HL := Lib.hid (show ∀ x, (w1.setCell ⟨m, 1, none⟩ (.bool false)).heap.size ≤ x → w.heap.size ≤ x from fun x h => by rw [hz5] at h; omega)
        clear hm3 ht3 hbw1 KD HMLT hnz B1 Z1 Z5 T5 M5 W5 Z3 BX ho p0 p1 p2 p3 p4 mc0 mc1 mf1 hz5
        go_wp2_with fail
        refine bodyPost_ret (v := .agg #[.int .i64 t.k, .int .i64 t.n, .int .i64 t.e, .string t.s, .slice oa on oc]) (by simp [results, Tryd.results83, go_sem, z0, z1, z2, z3, z4, V.k, V.n, V.e, V.s]) rfl ⟨_, om3, rfl, uwf, HX.out.mono (fun x hx _ => ⟨hx.1.imp id (fun h => HL.out x h), hx.2⟩), HY.out, HV.out⟩
      · have hbv : (false || (decide (t.k = 9) && decide (t.n = 256))) = false := by 
            have h6 : ¬ t.n = 256 := by simpa using t4
            simp [h6]
        rw [hbv]
        have KD := Lib.hid (fun W hW hm' => KD.out false W hW hm')
        obtain ⟨L, S2, hL⟩ : ∃ L S2, kdS getI (decide (t.k = 8)) 0 t.kids (R, false) = (L, S2) := ⟨_, _, rfl⟩
        rw [hL] at KD ⊢
        clear hL hbv
        go_enter Tryd.func83, Tryd.ntmps83
        go_wp2_with fail
        refine (isText_any _ _ _ _ _ _).mono ?_
        rintro x1 w1 ⟨h1, hb1⟩
        rw [hq] at h1
        subst h1
        have hz1 := hb1.size
        simp at hz1
        have hbw1 : Below w.heap.size w w1 := (by (repeat' (first | with_reducible exact Below.refl _ _ | with_reducible refine below_alloc ?_ _ ?_ | with_reducible refine Below.setCell ?_ ?_ _ | with_reducible refine Below.drew ?_ | with_reducible refine below_drewN ?_ _ | with_reducible refine below_step ?_ (by assumption) ?_ | with_reducible refine below_mark ?_ (by assumption) ?_)); all_goals (first | omega | (simp; done) | (simp; omega)))
        have B1 := Lib.hid ((BX.out.alloc (.cells #[.int .i64 0, .int .i64 0, .int .i64 0, .string ⟨#[]⟩, .slice none 0 0] 28)).stay hb1)
        have Z1 := Lib.hid (Box.stay (show Box ((w.alloc (.cells #[.int .i64 t.k, .int .i64 t.n, .int .i64 t.e, .string t.s, .slice sa sn sc] 28)).alloc (.cells #[.int .i64 0, .int .i64 0, .int .i64 0, .string ⟨#[]⟩, .slice none 0 0] 28)) (w.heap.size + 1) 0 0 0 ⟨#[]⟩ (.slice none 0 0) 28 by
          have := Box.new (w.alloc (.cells #[.int .i64 t.k, .int .i64 t.n, .int .i64 t.e, .string t.s, .slice sa sn sc] 28)) 0 0 0 ⟨#[]⟩ (.slice none 0 0) 28
          rwa [show (w.alloc (.cells #[.int .i64 t.k, .int .i64 t.n, .int .i64 t.e, .string t.s, .slice sa sn sc] 28)).heap.size = w.heap.size + 1 by simp] at this) hb1)
        obtain ⟨p0, p1, p2, p3, p4⟩ := B1.out.cells
        obtain ⟨mc0, mc1, mcf⟩ := (HM2.out.stay hbw1).cells
        have mf1 := mcf 1
        have hz5 : (w1.setCell ⟨m, 1, none⟩ (.bool false)).heap.size = w1.heap.size := by simp
        have T5 := Lib.hid ((Touch.of_below (A := ownM m om) hbw1).setBad (.bool false))
        have M5 := Lib.hid ((HM2.out.stay hbw1).setBad false)
        have Z5 := Lib.hid ((heap_setCell_other w1 ⟨m, 1, none⟩ (w.heap.size + 1) (.bool false) (by show w.heap.size + 1 ≠ m; omega)).trans Z1.out)
        have W5 := Lib.hid (show Below w0.heap.size w0 (w1.setCell ⟨m, 1, none⟩ (.bool false)) from (hw.trans (hbw1.mono hws)).setCell (by show w0.heap.size ≤ m; omega) _)
        clear mcf hb1
        go_wp2_with fail
        refine (KD.out _ W5.out M5.out).mono ?_
        rintro x3 w3 ⟨s2, om3, rfl, uwf, ho, hm3, ht3⟩
        obtain ⟨oa, on, oc, rfl⟩ : ∃ sa sn sc, s2 = .slice sa sn sc := by obtain ⟨p, q, e⟩ := ho.slice; exact ⟨p, _, q, e⟩
        unfold V.agg
        have hz3 := ht3.size
        rw [hz5] at hz3
        have Z3 := Lib.hid (show Box w3 (w.heap.size + 1) 0 0 0 ⟨#[]⟩ (.slice none 0 0) 28 from (ht3.block _ (by rw [hz5]; omega) (fun h => by have := (HMLT.out _ h).2; omega)).trans Z5.out)
        obtain ⟨z0, z1, z2, z3, z4⟩ := Z3.out.cells
        have zf0 := Z3.out.free (i := 0); have zf1 := Z3.out.free (i := 1); have zf2 := Z3.out.free (i := 2); have zf3 := Z3.out.free (i := 3); have zf4 := Z3.out.free (i := 4)
        have hnz : ¬ ownM m om3 (w.heap.size + 1) := fun h => by
          rcases ht3.new _ h with h | h
          · have := (HMLT.out _ h).2; omega
          · rw [hz5] at h; omega
        have HX := Lib.hid (ho.set5 (w.heap.size + 1) (fun h => by rcases h.1 with h1 | h1; omega; rw [hz5] at h1; omega) (.int .i64 t.k) (.int .i64 t.n) (.int .i64 t.e) (.string t.s) (.slice oa on oc))
        have HY := Lib.hid (hm3.set5 (w.heap.size + 1) hnz (.int .i64 t.k) (.int .i64 t.n) (.int .i64 t.e) (.string t.s) (.slice oa on oc))
        have HV := Lib.hid ((T5.out.trans ht3).set5 (w.heap.size + 1) (by omega) (.int .i64 t.k) (.int .i64 t.n) (.int .i64 t.e) (.string t.s) (.slice oa on oc))
        have HL := Lib.hid (show ∀ x, (w1.setCell ⟨m, 1, none⟩ (.bool false)).heap.size ≤ x → w.heap.size ≤ x from fun x h => by rw [hz5] at h; omega)
        clear hm3 ht3 hbw1 KD HMLT hnz B1 Z1 Z5 T5 M5 W5 Z3 BX ho p0 p1 p2 p3 p4 mc0 mc1 mf1 hz5
        go_wp2_with fail
        refine bodyPost_ret (v := .agg #[.int .i64 t.k, .int .i64 t.n, .int .i64 t.e, .string t.s, .slice oa on oc]) (by simp [results, Tryd.results83, go_sem, z0, z1, z2, z3, z4, V.k, V.n, V.e, V.s]) rfl ⟨_, om3, rfl, uwf, HX.out.mono (fun x hx _ => ⟨hx.1.imp id (fun h => HL.out x h), hx.2⟩), HY.out, HV.out⟩
      · have hbv : (false || (decide (t.k = 9) && decide (t.n = 256))) = true := by 
            have h9 : t.k = 9 := by simpa using t3
            have h6 : t.n = 256 := by simpa using t4
            simp [h9, h6]
        rw [hbv]
        have KD := Lib.hid (fun W hW hm' => KD.out true W hW hm')
        obtain ⟨L, S2, hL⟩ : ∃ L S2, kdS getI (decide (t.k = 8)) 0 t.kids (R, true) = (L, S2) := ⟨_, _, rfl⟩
        rw [hL] at KD ⊢
        clear hL hbv
        go_enter Tryd.func83, Tryd.ntmps83
        go_wp2_with fail
        refine (isText_any _ _ _ _ _ _).mono ?_
        rintro x1 w1 ⟨h1, hb1⟩
        rw [hq] at h1
        subst h1
        have hz1 := hb1.size
        simp at hz1
        have hbw1 : Below w.heap.size w w1 := (by (repeat' (first | with_reducible exact Below.refl _ _ | with_reducible refine below_alloc ?_ _ ?_ | with_reducible refine Below.setCell ?_ ?_ _ | with_reducible refine Below.drew ?_ | with_reducible refine below_drewN ?_ _ | with_reducible refine below_step ?_ (by assumption) ?_ | with_reducible refine below_mark ?_ (by assumption) ?_)); all_goals (first | omega | (simp; done) | (simp; omega)))
        have B1 := Lib.hid ((BX.out.alloc (.cells #[.int .i64 0, .int .i64 0, .int .i64 0, .string ⟨#[]⟩, .slice none 0 0] 28)).stay hb1)
        have Z1 := Lib.hid (Box.stay (show Box ((w.alloc (.cells #[.int .i64 t.k, .int .i64 t.n, .int .i64 t.e, .string t.s, .slice sa sn sc] 28)).alloc (.cells #[.int .i64 0, .int .i64 0, .int .i64 0, .string ⟨#[]⟩, .slice none 0 0] 28)) (w.heap.size + 1) 0 0 0 ⟨#[]⟩ (.slice none 0 0) 28 by
          have := Box.new (w.alloc (.cells #[.int .i64 t.k, .int .i64 t.n, .int .i64 t.e, .string t.s, .slice sa sn sc] 28)) 0 0 0 ⟨#[]⟩ (.slice none 0 0) 28
          rwa [show (w.alloc (.cells #[.int .i64 t.k, .int .i64 t.n, .int .i64 t.e, .string t.s, .slice sa sn sc] 28)).heap.size = w.heap.size + 1 by simp] at this) hb1)
        obtain ⟨p0, p1, p2, p3, p4⟩ := B1.out.cells
        obtain ⟨mc0, mc1, mcf⟩ := (HM2.out.stay hbw1).cells
        have mf1 := mcf 1
        have hz5 : (w1.setCell ⟨m, 1, none⟩ (.bool true)).heap.size = w1.heap.size := by simp
        have T5 := Lib.hid ((Touch.of_below (A := ownM m om) hbw1).setBad (.bool true))
        have M5 := Lib.hid ((HM2.out.stay hbw1).setBad true)
        have Z5 := Lib.hid ((heap_setCell_other w1 ⟨m, 1, none⟩ (w.heap.size + 1) (.bool true) (by show w.heap.size + 1 ≠ m; omega)).trans Z1.out)
        have W5 := Lib.hid (show Below w0.heap.size w0 (w1.setCell ⟨m, 1, none⟩ (.bool true)) from (hw.trans (hbw1.mono hws)).setCell (by show w0.heap.size ≤ m; omega) _)
        clear mcf hb1
        go_wp2_with fail
        refine (KD.out _ W5.out M5.out).mono ?_
        rintro x3 w3 ⟨s2, om3, rfl, uwf, ho, hm3, ht3⟩
        obtain ⟨oa, on, oc, rfl⟩ : ∃ sa sn sc, s2 = .slice sa sn sc := by obtain ⟨p, q, e⟩ := ho.slice; exact ⟨p, _, q, e⟩
        unfold V.agg
        have hz3 := ht3.size
        rw [hz5] at hz3
        have Z3 := Lib.hid (show Box w3 (w.heap.size + 1) 0 0 0 ⟨#[]⟩ (.slice none 0 0) 28 from (ht3.block _ (by rw [hz5]; omega) (fun h => by have := (HMLT.out _ h).2; omega)).trans Z5.out)
        obtain ⟨z0, z1, z2, z3, z4⟩ := Z3.out.cells
        have zf0 := Z3.out.free (i := 0); have zf1 := Z3.out.free (i := 1); have zf2 := Z3.out.free (i := 2); have zf3 := Z3.out.free (i := 3); have zf4 := Z3.out.free (i := 4)
        have hnz : ¬ ownM m om3 (w.heap.size + 1) := fun h => by
          rcases ht3.new _ h with h | h
          · have := (HMLT.out _ h).2; omega
          · rw [hz5] at h; omega
        have HX := Lib.hid (ho.set5 (w.heap.size + 1) (fun h => by rcases h.1 with h1 | h1; omega; rw [hz5] at h1; omega) (.int .i64 t.k) (.int .i64 t.n) (.int .i64 t.e) (.string t.s) (.slice oa on oc))
        have HY := Lib.hid (hm3.set5 (w.heap.size + 1) hnz (.int .i64 t.k) (.int .i64 t.n) (.int .i64 t.e) (.string t.s) (.slice oa on oc))
        have HV := Lib.hid ((T5.out.trans ht3).set5 (w.heap.size + 1) (by omega) (.int .i64 t.k) (.int .i64 t.n) (.int .i64 t.e) (.string t.s) (.slice oa on oc))
        have HL := Lib.hid (show ∀ x, (w1.setCell ⟨m, 1, none⟩ (.bool true)).heap.size ≤ x → w.heap.size ≤ x from fun x h => by rw [hz5] at h; omega)
        clear hm3 ht3 hbw1 KD HMLT hnz B1 Z1 Z5 T5 M5 W5 Z3 BX ho p0 p1 p2 p3 p4 mc0 mc1 mf1 hz5
        go_wp2_with fail
        refine bodyPost_ret (v := .agg #[.int .i64 t.k, .int .i64 t.n, .int .i64 t.e, .string t.s, .slice oa on oc]) (by simp [results, Tryd.results83, go_sem, z0, z1, z2, z3, z4, V.k, V.n, V.e, V.s]) rfl ⟨_, om3, rfl, uwf, HX.out.mono (fun x hx _ => ⟨hx.1.imp id (fun h => HL.out x h), hx.2⟩), HY.out, HV.out⟩
end Go.Proofs.YtiemlefmhleaeaaDoor
namespace Go.Proofs.YtiemlefmhleaeaaDoor
set_option linter.unusedVariables false
set_option maxRecDepth 100000
open Go.RowKit
theorem gr_bad {x : V} {d : Int} (h : rightB x d = true) (hb : (getI x ([], false)).2.2 = true) : grK x = none := by
  have G := get_same x d [] h (fun y hy => by simp at hy)
  unfold grK
  split
  · rfl
  · rename_i h256
    rw [Bool.not_eq_true] at h256
    cases hg : getS x [] with
    | none => rfl
    | some p =>
      have := ((G.2 h256).2 p hg).1
      rw [this] at hb
      simp at hb
theorem gr_fine {x : V} {d : Int} (h : rightB x d = true) (hn : x.nodes ≤ 300) (hb : (getI x ([], false)).2.2 = false) :
    grK x = (if okT (getI x ([], false)).1 then some (getI x ([], false)).1 else none) ∧ (getI x ([], false)).1.sz ≤ 1048576 := by
  have G := get_same x d [] h (fun y hy => by simp at hy)
  have h256 : hasT 256 256 x = false := by
    cases hq : hasT 256 256 x with
    | false => rfl
    | true => have := G.1 hq; rw [hb] at this; cases this
  cases hg : getS x [] with
  | none => have := (G.2 h256).1 hg; rw [hb] at this; cases this
  | some p =>
    have h1 := ((G.2 h256).2 p hg).1
    have h2 := (gr_sz h hn h256 hg).1
    refine ⟨?_, by rw [h1]; exact h2⟩
    unfold grK
    rw [if_neg (by rw [h256]; simp), hg, h1]
    rfl
set_option maxHeartbeats 2000000 in
theorem GetRefs_impl (w0 : World) (v : Value) (t : V) (h : Rep w0 v t) (hsz : t.sz ≤ 1048576) (w : World) (hw : Below w0.heap.size w0 w) (hE : Env w0) : Calls Tryd.prog 17 #[v] w (VBRet w ((grR t).getD t) (grR t).isSome) := by
  have VO := Lib.hid (fun (W : World) (hW : Below w.heap.size w W) => ValueOk_impl w0 hE v t h hsz W (hw.trans (hW.mono hw.size)))
  have OW := Lib.hid (fun (W : World) (hW : Below w.heap.size w W) => own_any w0 v t h hsz W (hw.trans (hW.mono hw.size)))
  have HP := Lib.hid (show grR t = none → ∀ e w', (∃ sl, e = .returned (.tuple #[t.agg sl, .bool false]) ∧ OwnS w' (fun x => w.heap.size ≤ x) sl t.kids ∧ Below w.heap.size w w') → VBRet w ((grR t).getD t) (grR t).isSome e w' from fun hn e w' ⟨sl, h1, h2, h3⟩ => by
    rw [hn]; obtain ⟨_, _, hwf, _⟩ := h; exact ⟨sl, h1, hwf, h2, h3⟩)
  have HS := Lib.hid (show ∀ u, grR t = some u → u.wf → ∀ e w', (∃ sl, e = .returned (.tuple #[u.agg sl, .bool true]) ∧ OwnS w' (fun x => w.heap.size ≤ x) sl u.kids ∧ Below w.heap.size w w') → VBRet w ((grR t).getD t) (grR t).isSome e w' from fun u hn hwf e w' ⟨sl, h1, h2, h3⟩ => by
    rw [hn]; exact ⟨sl, h1, hwf, h2, h3⟩)
  have HK := Lib.hid (show grR t = if okT t && (decide (t.k = 9) && decide (t.n = 256)) then (match t.kids with | x :: _ => grK x | [] => none) else none from rfl)
  obtain ⟨sl, rfl, hwf, hr⟩ := h
  by_cases hbad : okT t = true ∧ t.k = 9 ∧ t.n = 256
  · obtain ⟨hok, h9, hn9⟩ := hbad
    have hright : rightB t 12 = true := by simp only [okT, Bool.and_eq_true] at hok; exact hok.1
    have hnod : t.nodes ≤ 300 := (ok_small hok).2
    have hlen : t.kids.length = 1 := by
      have h2 := hright
      rw [rightB_eq] at h2
      simp only [Bool.and_eq_true, ownB] at h2
      have h3 := h2.1.2.2
      rw [if_neg (by omega), if_pos h9] at h3
      simpa using h3
    obtain ⟨x, hx⟩ : ∃ x, t.kids = [x] := by
      cases hk : t.kids with
      | nil => rw [hk] at hlen; simp at hlen
      | cons x xs => rw [hk] at hlen; exact ⟨x, by rw [List.eq_nil_of_length_eq_zero (by simpa using hlen : xs.length = 0)]⟩
    have hrx : rightB x 11 = true := by have := right_kids hright; rw [hx, rightsB, Bool.and_eq_true] at this; exact this.1
    have hnx : x.nodes ≤ 300 := by have := V.nodes_eq t; rw [hx, nodess] at this; omega
    have hzx : x.sz ≤ 1048576 := by have h1 := szs_mem (show x ∈ t.kids by rw [hx]; simp); have h2 := V.sz_eq t; omega
    have HK2 := Lib.hid (show grR t = grK x by rw [HK.out, hok, h9, hn9, hx]; rfl)
    clear HK
    have hr1 : RepS w0 sl [x] := hx ▸ hr
    obtain ⟨a, b, off, cap, rfl, ha, hc, hm, sls, hel⟩ := hr1.opened
    obtain rfl := (ha (by simp)).1
    have hbw := (ha (by simp)).2
    have h0 : Cells5 w0 b off x (sls 0) ∧ x.wf ∧ RepS w0 (sls 0) x.kids := by have := hel 0 (by simp); simpa using this
    obtain ⟨a3, cap3, hs3⟩ := h0.2.2.slice
    have CX := Lib.hid (fun (W : World) (hW : Below w.heap.size w W) => h0.1.keep ((hw.trans (hW.mono hw.size)).block b hbw))
    have GR := Lib.hid (fun (m : Nat) (W : World) (hW : Below w.heap.size w W) (hm : MOf w.heap.size m [] false (.slice none 0 0) W) => show Calls Tryd.prog 83 #[.pointer (some ⟨m, 0, none⟩), x.agg (sls 0)] W (MemRetF w.heap.size w.heap.size m (.slice none 0 0) W (getI x ([], false))) from
      grown_any w.heap.size m w (Nat.le_refl _) _ (x.agg (sls 0)) x 11 (Nat.lt_succ_self _) hrx ⟨_, rfl, h0.2.1, h0.2.2.keep hw⟩ hzx ([], false) (.slice none 0 0) W hW hm (by simp; omega))
    have HG1 := Lib.hid (fun hb => show grR t = none from HK2.out.trans (gr_bad hrx hb))
    have HG2 := Lib.hid (fun hb => show grR t = _ from HK2.out.trans (gr_fine hrx hnx hb).1)
    have VU := Lib.hid (fun hb (y : Value) (W W2 : World) (hW : Below w.heap.size w W) (hr : Rep W y (getI x ([], false)).1) (hW2 : Below W.heap.size W W2) => ValueOk_impl W (Env.keep (Env.keep hE hw) hW) y _ hr (gr_fine hrx hnx hb).2 W2 hW2)
    have OU := Lib.hid (fun hb (y : Value) (W W2 : World) (hr : Rep W y (getI x ([], false)).1) (hW2 : Below W.heap.size W W2) => own_any W y _ hr (gr_fine hrx hnx hb).2 W2 hW2)
    rw [hs3] at CX GR
    have hbl : b < w.heap.size := by have := hw.size; omega
    have hagg : t.agg (.slice (some ⟨b, off, none⟩) [x].length cap) = .agg #[.int .i64 9, .int .i64 256, .int .i64 t.e, .string t.s, .slice (some ⟨b, off, none⟩) 1 cap] := by unfold V.agg; rw [h9, hn9]; rfl
    have BX := Lib.hid (Box.new w 9 256 t.e t.s (.slice (some ⟨b, off, none⟩) 1 cap) 28)
    have t1 : ((9 : Int) != 9) = false := by decide
    have HPA := Lib.hid (show grR t = none → ∀ e w', (∃ sl, e = .returned (.tuple #[.agg #[.int .i64 9, .int .i64 256, .int .i64 t.e, .string t.s, sl], .bool false]) ∧ OwnS w' (fun x => w.heap.size ≤ x) sl [x] ∧ Below w.heap.size w w') → VBRet w ((grR t).getD t) (grR t).isSome e w' from fun hn e w' ⟨sl, h1, h2, h3⟩ => HP.out hn e w' ⟨sl, by rw [h1]; unfold V.agg; rw [h9, hn9], by rw [hx]; exact h2, h3⟩)
    have OWA := Lib.hid (fun (W : World) (hW : Below w.heap.size w W) => show Calls Tryd.prog 82 #[.agg #[.int .i64 9, .int .i64 256, .int .i64 t.e, .string t.s, .slice (some ⟨b, off, none⟩) 1 cap]] W (fun e w' => ∃ sl, e = .returned (.agg #[.int .i64 9, .int .i64 256, .int .i64 t.e, .string t.s, sl]) ∧ t.wf ∧ OwnS w' (fun x => W.heap.size ≤ x) sl [x] ∧ Below W.heap.size W w') from by
      have h1 := OW.out W hW
      rw [hagg] at h1
      refine h1.mono (fun e w' ⟨sl, h2, h3, h4, h5⟩ => ⟨sl, by rw [h2]; unfold V.agg; rw [h9, hn9], h3, by rw [← hx]; exact h4, h5⟩)
    )
    rw [hagg]
    rw [hagg] at VO
    rw [hok] at VO
    clear HK2 hnod hnx hagg hr hr1 hwf hsz HP OW hel ha hc hm h0 hs3 hw hright hok hlen hrx hzx hbw
    have OW := OWA; have HP := HPA
    clear OWA HPA
    unfold V.agg at *
    generalize (grR t).getD t = r1 at *
    generalize (grR t).isSome = r2 at *
    generalize grR t = KR at *
    generalize t.e = e at *
    generalize t.s = s at *
    have BZ := Lib.hid (show Box ((w.alloc (.cells #[.int .i64 9, .int .i64 256, .int .i64 e, .string s, .slice (some ⟨b, off, none⟩) 1 cap] 28)).alloc (.cells #[.int .i64 0, .int .i64 0, .int .i64 0, .string ⟨#[]⟩, .slice none 0 0] 28)) (w.heap.size + 1) 0 0 0 ⟨#[]⟩ (.slice none 0 0) 28 by
      have := Box.new (w.alloc (.cells #[.int .i64 9, .int .i64 256, .int .i64 e, .string s, .slice (some ⟨b, off, none⟩) 1 cap] 28)) 0 0 0 ⟨#[]⟩ (.slice none 0 0) 28
      rwa [show (w.alloc (.cells #[.int .i64 9, .int .i64 256, .int .i64 e, .string s, .slice (some ⟨b, off, none⟩) 1 cap] 28)).heap.size = w.heap.size + 1 by simp] at this)
    generalize getI x ([], false) = pt at *
    obtain ⟨u, R9, bad⟩ := pt
    go_enter Tryd.func17, Tryd.ntmps17
    go_wp2_with fail
    refine (VO.out _ ((by (repeat' (first | with_reducible exact Below.refl _ _ | with_reducible refine below_alloc ?_ _ ?_ | with_reducible refine Below.setCell ?_ ?_ _ | with_reducible refine Below.drew ?_ | with_reducible refine below_drewN ?_ _ | with_reducible refine below_step ?_ (by assumption) ?_ | with_reducible refine below_mark ?_ (by assumption) ?_)); all_goals (first | omega | (simp; done) | (simp; omega))))).mono ?_
    rintro x9 w1 ⟨rfl, hb1⟩
    have hz1 := hb1.size
    try simp at hz1
    have hbw1 : Below w.heap.size w w1 := (by (repeat' (first | with_reducible exact Below.refl _ _ | with_reducible refine below_alloc ?_ _ ?_ | with_reducible refine Below.setCell ?_ ?_ _ | with_reducible refine Below.drew ?_ | with_reducible refine below_drewN ?_ _ | with_reducible refine below_step ?_ (by assumption) ?_ | with_reducible refine below_mark ?_ (by assumption) ?_)); all_goals (first | omega | (simp; done) | (simp; omega)))
    have BX1 := Lib.hid ((BX.out.alloc _).stay hb1)
    have BZ1 := Lib.hid (BZ.out.stay hb1)
    obtain ⟨p0, p1, p2, p3, p4⟩ := BX1.out.cells
    obtain ⟨c0, c1, c2, c3, c4⟩ := CX.out _ hbw1
    have hn1 : w.heap.size ≠ w1.heap.size := by omega
    have hn2 : w1.heap.size ≠ w.heap.size := by omega
    have hn3 : w.heap.size < w1.heap.size := by omega
    have hn4 : w.heap.size + 1 ≠ w1.heap.size := by omega
    have hn5 : w1.heap.size ≠ w.heap.size + 1 := by omega
    have hn6 : w.heap.size + 1 < w1.heap.size := by omega
    have hn7 : b ≠ w1.heap.size := by omega
    have hn8 : w1.heap.size ≠ b := by omega
    have hn9 : b < w1.heap.size := by omega
    go_wp2_with fail
    have hA1 : Below w.heap.size w (w1.alloc (.cells #[.slice none 0 0, .bool false] 79)) := (by (repeat' (first | with_reducible exact Below.refl _ _ | with_reducible refine below_alloc ?_ _ ?_ | with_reducible refine Below.setCell ?_ ?_ _ | with_reducible refine Below.drew ?_ | with_reducible refine below_drewN ?_ _ | with_reducible refine below_step ?_ (by assumption) ?_ | with_reducible refine below_mark ?_ (by assumption) ?_)); all_goals (first | omega | (simp; done) | (simp; omega)))
    refine (GR.out w1.heap.size _ hA1 (mof_new w1 w.heap.size (by omega))).mono ?_
    rintro x9 w2 ⟨us, om, rfl, uwf, uo, hm2, ht2⟩
    obtain ⟨ua, un, uc, rfl⟩ : ∃ a n c, us = .slice a n c := by obtain ⟨p, q, e⟩ := uo.slice; exact ⟨p, _, q, e⟩
    unfold V.agg
    have hz2 := ht2.size
    try simp at hz2
    have hno : ∀ x, x < w1.heap.size → ¬ ownM w1.heap.size (.slice none 0 0) x := fun x hx h => by
      rcases h with h | h
      · omega
      · simp [Value.ownBlock] at h
    have hbw2 : Below w.heap.size w w2 := hA1.trans (ht2.below (fun x hx => by
      rcases hx with h | h
      · omega
      · simp [Value.ownBlock] at h) (by simp; omega))
    have BX2 := Lib.hid (show Box w2 w.heap.size 9 256 e s (.slice (some ⟨b, off, none⟩) 1 cap) 28 from (ht2.block _ (by simp; omega) (hno _ (by omega))).trans (BX1.out.alloc _))
    have BZ2 := Lib.hid (show Box w2 (w.heap.size + 1) 0 0 0 ⟨#[]⟩ (.slice none 0 0) 28 from (ht2.block _ (by simp; omega) (hno _ (by omega))).trans (BZ1.out.alloc _))
    have HRU := Lib.hid (show Rep w2 (u.agg (.slice ua un uc)) u from ⟨_, rfl, uwf, uo.rep⟩)
    obtain ⟨mc0, mc1, -⟩ := hm2.cells
    have BU2 := Lib.hid (Box.new w2 u.k u.n u.e u.s (.slice ua un uc) 28)
    have hlm : w1.heap.size < w2.heap.size := by omega
    have hnm : w1.heap.size ≠ w2.heap.size := by omega
    clear p0 p1 p2 p3 p4 c0 c1 c2 c3 c4 hn1 hn2 hn3 hn4 hn5 hn6 hn7 hn8 hn9 uo hno hA1 GR ht2 CX
    obtain ⟨p0, p1, p2, p3, p4⟩ := BX2.out.cells
    cases bad
    · have VUX := Lib.hid (fun (W2 : World) (hW2 : Below w2.heap.size w2 W2) => VU.out rfl _ w2 W2 hbw2 HRU.out hW2)
      have OUX := Lib.hid (fun (W2 : World) (hW2 : Below w2.heap.size w2 W2) => OU.out rfl _ w2 W2 HRU.out hW2)
      have HG3 := Lib.hid (HG2.out rfl)
      clear VU OU HG1 HG2 HRU
      unfold ValRet at OUX
      unfold V.agg at *
      go_wp2_with fail
      refine (VUX.out _ ((by (repeat' (first | with_reducible exact Below.refl _ _ | with_reducible refine below_alloc ?_ _ ?_ | with_reducible refine Below.setCell ?_ ?_ _ | with_reducible refine Below.drew ?_ | with_reducible refine below_drewN ?_ _ | with_reducible refine below_step ?_ (by assumption) ?_ | with_reducible refine below_mark ?_ (by assumption) ?_)); all_goals (first | omega | (simp; done) | (simp; omega))))).mono ?_
      rintro x9 w3 ⟨rfl, hb3⟩
      have hz3 := hb3.size
      try simp at hz3
      have hb23 : Below w2.heap.size w2 w3 := (by (repeat' (first | with_reducible exact Below.refl _ _ | with_reducible refine below_alloc ?_ _ ?_ | with_reducible refine Below.setCell ?_ ?_ _ | with_reducible refine Below.drew ?_ | with_reducible refine below_drewN ?_ _ | with_reducible refine below_step ?_ (by assumption) ?_ | with_reducible refine below_mark ?_ (by assumption) ?_)); all_goals (first | omega | (simp; done) | (simp; omega)))
      have hbw3 : Below w.heap.size w w3 := hbw2.trans (hb23.mono (by omega))
      have BX3 := Lib.hid ((BX2.out.alloc _).stay hb3)
      have BZ3 := Lib.hid ((BZ2.out.alloc _).stay hb3)
      have BU3 := Lib.hid (BU2.out.stay hb3)
      clear p0 p1 p2 p3 p4
      cases hok : okT u
      · have H := Lib.hid (HP.out (by rw [HG3.out, hok]; rfl))
        obtain ⟨p0, p1, p2, p3, p4⟩ := BX3.out.cells
        go_wp2_with fail
        refine (OW.out _ hbw3).mono ?_
        rintro x9 w9 ⟨s9, rfl, wf9, ho9, hb9⟩
        obtain ⟨oa, on, oc, rfl⟩ : ∃ sa sn sc, s9 = .slice sa sn sc := by obtain ⟨p, q, e⟩ := ho9.slice; exact ⟨p, _, q, e⟩
        have hz9 := hb9.size
        have HO := Lib.hid (show OwnS w9 (fun x => w.heap.size + 1 + 1 ≤ x) (.slice oa on oc) [x] from ho9.mono (fun x hx => Nat.le_trans (by first | omega | (simp; omega)) hx)); clear ho9
        have BZ9 := Lib.hid (BZ3.out.stay hb9)
        have hbw9 : Below w.heap.size w w9 := hbw3.trans (hb9.mono (by omega))
        obtain ⟨z0, z1, z2, z3, z4⟩ := BZ9.out.cells
        have zf0 := BZ9.out.free (i := 0); have zf1 := BZ9.out.free (i := 1); have zf2 := BZ9.out.free (i := 2); have zf3 := BZ9.out.free (i := 3); have zf4 := BZ9.out.free (i := 4)
        go_wp2_with fail
        refine bodyPost_ret (v := .tuple #[.agg #[.int .i64 9, .int .i64 256, .int .i64 e, .string s, .slice oa on oc], .bool false]) (by simp [results, Tryd.results17, go_sem, z0, z1, z2, z3, z4]) rfl (H.out _ _ ⟨_, rfl, ?_, (hbw9.trans ((below_set5 w9 (w.heap.size + 1) _ _ _ _ _).mono (by omega)))⟩)
        refine OwnS.mono (F := fun x => w.heap.size + 1 + 1 ≤ x) ?_ (fun x hx => by omega)
        exact HO.out.set5 _ (by omega) _ _ _ _ _
      · have H := Lib.hid (HS.out u (by rw [HG3.out, hok]; rfl) uwf)
        obtain ⟨p0, p1, p2, p3, p4⟩ := BU3.out.cells
        go_wp2_with fail
        refine (OUX.out _ hb23).mono ?_
        rintro x9 w9 ⟨s9, rfl, wf9, ho9, hb9⟩
        obtain ⟨oa, on, oc, rfl⟩ : ∃ sa sn sc, s9 = .slice sa sn sc := by obtain ⟨p, q, e⟩ := ho9.slice; exact ⟨p, _, q, e⟩
        have hz9 := hb9.size
        have HO := Lib.hid (show OwnS w9 (fun x => w.heap.size + 1 + 1 ≤ x) (.slice oa on oc) u.kids from ho9.mono (fun x hx => Nat.le_trans (by first | omega | (simp; omega)) hx)); clear ho9
        have BZ9 := Lib.hid (BZ3.out.stay hb9)
        have hbw9 : Below w.heap.size w w9 := hbw3.trans (hb9.mono (by omega))
        obtain ⟨z0, z1, z2, z3, z4⟩ := BZ9.out.cells
        have zf0 := BZ9.out.free (i := 0); have zf1 := BZ9.out.free (i := 1); have zf2 := BZ9.out.free (i := 2); have zf3 := BZ9.out.free (i := 3); have zf4 := BZ9.out.free (i := 4)
        go_wp2_with fail
        refine bodyPost_ret (v := .tuple #[.agg #[.int .i64 u.k, .int .i64 u.n, .int .i64 u.e, .string u.s, .slice oa on oc], .bool true]) (by simp [results, Tryd.results17, go_sem, z0, z1, z2, z3, z4]) rfl (H.out _ _ ⟨_, rfl, ?_, (hbw9.trans ((below_set5 w9 (w.heap.size + 1) _ _ _ _ _).mono (by omega)))⟩)
        refine OwnS.mono (F := fun x => w.heap.size + 1 + 1 ≤ x) ?_ (fun x hx => by omega)
        exact HO.out.set5 _ (by omega) _ _ _ _ _
    · have H := Lib.hid (HP.out (HG1.out rfl))
      clear VU OU HG1 HG2 HRU
      have hn1 : w.heap.size ≠ w2.heap.size := by omega
      have hn2 : w2.heap.size ≠ w.heap.size := by omega
      have hn3 : w.heap.size < w2.heap.size := by omega
      have hn4 : w.heap.size + 1 ≠ w2.heap.size := by omega
      have hn5 : w2.heap.size ≠ w.heap.size + 1 := by omega
      have hn6 : w.heap.size + 1 < w2.heap.size := by omega
      have hn7 : b ≠ w2.heap.size := by omega
      have hn8 : w2.heap.size ≠ b := by omega
      have hn9 : b < w2.heap.size := by omega
      have hzA : (w2.alloc (.cells #[.int .i64 u.k, .int .i64 u.n, .int .i64 u.e, .string u.s, .slice ua un uc] 28)).heap.size = w2.heap.size + 1 := by simp
      have hbw3 : Below w.heap.size w (w2.alloc (.cells #[.int .i64 u.k, .int .i64 u.n, .int .i64 u.e, .string u.s, .slice ua un uc] 28)) := (by (repeat' (first | with_reducible exact Below.refl _ _ | with_reducible refine below_alloc ?_ _ ?_ | with_reducible refine Below.setCell ?_ ?_ _ | with_reducible refine Below.drew ?_ | with_reducible refine below_drewN ?_ _ | with_reducible refine below_step ?_ (by assumption) ?_ | with_reducible refine below_mark ?_ (by assumption) ?_)); all_goals (first | omega | (simp; done) | (simp; omega)))
      have BZ3 := Lib.hid (BZ2.out.alloc (.cells #[.int .i64 u.k, .int .i64 u.n, .int .i64 u.e, .string u.s, .slice ua un uc] 28))
      go_wp2_with fail
      refine (OW.out _ hbw3).mono ?_
      rintro x9 w9 ⟨s9, rfl, wf9, ho9, hb9⟩
      obtain ⟨oa, on, oc, rfl⟩ : ∃ sa sn sc, s9 = .slice sa sn sc := by obtain ⟨p, q, e⟩ := ho9.slice; exact ⟨p, _, q, e⟩
      have hz9 := hb9.size
      have HO := Lib.hid (show OwnS w9 (fun x => w.heap.size + 1 + 1 ≤ x) (.slice oa on oc) [x] from ho9.mono (fun x hx => Nat.le_trans (by first | omega | (simp; omega)) hx)); clear ho9
      have BZ9 := Lib.hid (BZ3.out.stay hb9)
      have hbw9 : Below w.heap.size w w9 := hbw3.trans (hb9.mono (by omega))
      obtain ⟨z0, z1, z2, z3, z4⟩ := BZ9.out.cells
      have zf0 := BZ9.out.free (i := 0); have zf1 := BZ9.out.free (i := 1); have zf2 := BZ9.out.free (i := 2); have zf3 := BZ9.out.free (i := 3); have zf4 := BZ9.out.free (i := 4)
      go_wp2_with fail
      refine bodyPost_ret (v := .tuple #[.agg #[.int .i64 9, .int .i64 256, .int .i64 e, .string s, .slice oa on oc], .bool false]) (by simp [results, Tryd.results17, go_sem, z0, z1, z2, z3, z4]) rfl (H.out _ _ ⟨_, rfl, ?_, (hbw9.trans ((below_set5 w9 (w.heap.size + 1) _ _ _ _ _).mono (by omega)))⟩)
      refine OwnS.mono (F := fun x => w.heap.size + 1 + 1 ≤ x) ?_ (fun x hx => by omega)
      exact HO.out.set5 _ (by omega) _ _ _ _ _
  · have hno : grR t = none := by
      rw [HK.out, if_neg]
      simp only [Bool.and_eq_true, decide_eq_true_eq]
      exact hbad
    have H := Lib.hid (HP.out hno)
    have hcase : okT t = false ∨ (okT t = true ∧ ((t.k != 9) = true)) ∨ (okT t = true ∧ ((t.k != 9) = false) ∧ ((t.n != 256) = true)) := by
      cases hok : okT t with
      | false => exact .inl rfl
      | true =>
        by_cases h9 : t.k = 9
        · exact .inr (.inr ⟨rfl, by simpa using h9, by simpa using fun e => hbad ⟨hok, h9, e⟩⟩)
        · exact .inr (.inl ⟨rfl, by simpa using h9⟩)
    obtain ⟨sa, sc, rfl⟩ := hr.slice
    have BX := Lib.hid (Box.new w t.k t.n t.e t.s (.slice sa t.kids.length sc) 28)
    clear hr hwf hsz HP HS HK hno hbad
    unfold ValRet at OW
    unfold V.agg at *
    generalize (grR t).getD t = r1 at *
    generalize (grR t).isSome = r2 at *
    generalize okT t = b1 at *
    generalize t.k = k at *
    generalize t.n = n at *
    generalize t.e = e at *
    generalize t.s = s at *
    generalize t.kids = ts at *
    have BZ := Lib.hid (show Box ((w.alloc (.cells #[.int .i64 k, .int .i64 n, .int .i64 e, .string s, .slice sa ts.length sc] 28)).alloc (.cells #[.int .i64 0, .int .i64 0, .int .i64 0, .string ⟨#[]⟩, .slice none 0 0] 28)) (w.heap.size + 1) 0 0 0 ⟨#[]⟩ (.slice none 0 0) 28 by
      have := Box.new (w.alloc (.cells #[.int .i64 k, .int .i64 n, .int .i64 e, .string s, .slice sa ts.length sc] 28)) 0 0 0 ⟨#[]⟩ (.slice none 0 0) 28
      rwa [show (w.alloc (.cells #[.int .i64 k, .int .i64 n, .int .i64 e, .string s, .slice sa ts.length sc] 28)).heap.size = w.heap.size + 1 by simp] at this)
    rcases hcase with rfl | ⟨rfl, t1⟩ | ⟨rfl, t1, t2⟩
    all_goals
      go_enter Tryd.func17, Tryd.ntmps17
      go_wp2_with fail
      refine (VO.out _ ((by (repeat' (first | with_reducible exact Below.refl _ _ | with_reducible refine below_alloc ?_ _ ?_ | with_reducible refine Below.setCell ?_ ?_ _ | with_reducible refine Below.drew ?_ | with_reducible refine below_drewN ?_ _ | with_reducible refine below_step ?_ (by assumption) ?_ | with_reducible refine below_mark ?_ (by assumption) ?_)); all_goals (first | omega | (simp; done) | (simp; omega))))).mono ?_
      rintro x9 w1 ⟨rfl, hb1⟩
      have hz1 := hb1.size
      try simp at hz1
      have hbw1 : Below w.heap.size w w1 := (by (repeat' (first | with_reducible exact Below.refl _ _ | with_reducible refine below_alloc ?_ _ ?_ | with_reducible refine Below.setCell ?_ ?_ _ | with_reducible refine Below.drew ?_ | with_reducible refine below_drewN ?_ _ | with_reducible refine below_step ?_ (by assumption) ?_ | with_reducible refine below_mark ?_ (by assumption) ?_)); all_goals (first | omega | (simp; done) | (simp; omega)))
      have BX1 := Lib.hid ((BX.out.alloc _).stay hb1)
      have BZ1 := Lib.hid (BZ.out.stay hb1)
      obtain ⟨p0, p1, p2, p3, p4⟩ := BX1.out.cells
      go_wp2_with fail
      refine (OW.out _ hbw1).mono ?_
      rintro x9 w9 ⟨s9, rfl, wf9, ho9, hb9⟩
      obtain ⟨oa, on, oc, rfl⟩ : ∃ sa sn sc, s9 = .slice sa sn sc := by obtain ⟨p, q, e⟩ := ho9.slice; exact ⟨p, _, q, e⟩
      have hz9 := hb9.size
      have HO := Lib.hid (show OwnS w9 (fun x => w.heap.size + 1 + 1 ≤ x) (.slice oa on oc) ts from ho9.mono (fun x hx => Nat.le_trans (by first | omega | (simp; omega)) hx)); clear ho9
      have BZ9 := Lib.hid (BZ1.out.stay hb9)
      have hbw9 : Below w.heap.size w w9 := hbw1.trans (hb9.mono (by omega))
      obtain ⟨z0, z1, z2, z3, z4⟩ := BZ9.out.cells
      have zf0 := BZ9.out.free (i := 0); have zf1 := BZ9.out.free (i := 1); have zf2 := BZ9.out.free (i := 2); have zf3 := BZ9.out.free (i := 3); have zf4 := BZ9.out.free (i := 4)
      go_wp2_with fail
      refine bodyPost_ret (v := .tuple #[.agg #[.int .i64 k, .int .i64 n, .int .i64 e, .string s, .slice oa on oc], .bool false]) (by simp [results, Tryd.results17, go_sem, z0, z1, z2, z3, z4]) rfl (H.out _ _ ⟨_, rfl, ?_, (hbw9.trans ((below_set5 w9 (w.heap.size + 1) _ _ _ _ _).mono (by omega)))⟩)
      refine OwnS.mono (F := fun x => w.heap.size + 1 + 1 ≤ x) ?_ (fun x hx => by omega)
      exact HO.out.set5 _ (by omega) _ _ _ _ _
end Go.Proofs.YtiemlefmhleaeaaDoor
