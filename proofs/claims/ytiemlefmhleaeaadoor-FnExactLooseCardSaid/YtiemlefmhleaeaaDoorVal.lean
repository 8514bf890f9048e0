/- Values as trees; what it is that a value in memory reads as one; the reading of a law's argument. -/
import Derived.Test.YtiemlefmhleaeaaDoorRows
import Derived.Test.YtiemlefmhleaeaaDoorBytes
import Derived.WalkKit
import Derived.ProofKit
namespace Go.Proofs.YtiemlefmhleaeaaDoor
set_option linter.unusedVariables false
set_option maxRecDepth 100000
open Go.RowKit
inductive V where
  | mk (k n e : Int) (s : ByteArray) (kids : List V)
namespace V
def k : V → Int | mk k _ _ _ _ => k
def n : V → Int | mk _ n _ _ _ => n
def e : V → Int | mk _ _ e _ _ => e
def s : V → ByteArray | mk _ _ _ s _ => s
def kids : V → List V | mk _ _ _ _ ks => ks
end V
theorem ba_ext {a b : ByteArray} (h : a.data.toList = b.data.toList) : a = b := by
  cases a; cases b; simp at h; rw [h]
instance baDec : DecidableEq ByteArray := fun a b => decidable_of_decidable_of_iff (p := a.data.toList = b.data.toList) ⟨ba_ext, fun h => by rw [h]⟩
theorem ba_eqv (a b : ByteArray) : (a.toList == b.toList) = decide (a = b) := by
  rw [ByteArray.toList_eq, ByteArray.toList_eq, Bool.eq_iff_iff]
  simp only [beq_iff_eq, decide_eq_true_eq]
  exact ⟨ba_ext, fun h => by rw [h]⟩
theorem ba_yes {a b : ByteArray} (h : a = b) : (a.toList == b.toList) = true := by rw [ba_eqv]; simpa using h
theorem ba_no {a b : ByteArray} (h : ¬ a = b) : (a.toList == b.toList) = false := by rw [ba_eqv]; simpa using h
mutual
/-- how many kids and letters a value holds -/
def V.sz : V → Nat
  | .mk _ _ _ s ks => s.size + szs ks
def szs : List V → Nat
  | [] => 0
  | t :: ts => 1 + t.sz + szs ts
 end
def In64 (n : Int) : Prop := -9223372036854775808 ≤ n ∧ n ≤ 9223372036854775807
def V.wf (t : V) : Prop := In64 t.k ∧ In64 t.n ∧ In64 t.e ∧ t.s.size ≤ 9223372036854775807
def Cells5 (w : World) (b o : Nat) (t : V) (sl : Value) : Prop :=
  w.cell? ⟨b, o, none⟩ = some (.int .i64 t.k) ∧ w.cell? ⟨b, o + 1, none⟩ = some (.int .i64 t.n) ∧ w.cell? ⟨b, o + 2, none⟩ = some (.int .i64 t.e) ∧ w.cell? ⟨b, o + 3, none⟩ = some (.string t.s) ∧ w.cell? ⟨b, o + 4, none⟩ = some sl
/-- a slice value reads as a list of values -/
inductive RepS (w : World) : Value → List V → Prop
  | mk (a : Option Addr) (b off cap : Nat) (ts : List V) (sls : Nat → Value) (ha : ts ≠ [] → a = some ⟨b, off, none⟩) (hc : ts.length ≤ cap) (hm : cap ≤ 9223372036854775807)
      (hb : ts ≠ [] → b < w.heap.size) (cells : ∀ i (h : i < ts.length), Cells5 w b (off + i * 5) ts[i] (sls i)) (wfs : ∀ i (h : i < ts.length), ts[i].wf)
      (kids : ∀ i (h : i < ts.length), RepS w (sls i) ts[i].kids) : RepS w (.slice a ts.length cap) ts
def V.agg (t : V) (sl : Value) : Value := .agg #[.int .i64 t.k, .int .i64 t.n, .int .i64 t.e, .string t.s, sl]
def Rep (w : World) (v : Value) (t : V) : Prop := ∃ sl, v = t.agg sl ∧ t.wf ∧ RepS w sl t.kids
theorem Cells5.keep {w w' : World} {b o : Nat} {t : V} {sl : Value} (h : Cells5 w b o t sl) (hb : w'.heap[b]? = w.heap[b]?) : Cells5 w' b o t sl := by
  obtain ⟨h0, h1, h2, h3, h4⟩ := h
  refine ⟨?_, ?_, ?_, ?_, ?_⟩
  · rw [World.cell?_of_block (w := w) (w' := w') hb]; exact h0
  · rw [World.cell?_of_block (w := w) (w' := w') hb]; exact h1
  · rw [World.cell?_of_block (w := w) (w' := w') hb]; exact h2
  · rw [World.cell?_of_block (w := w) (w' := w') hb]; exact h3
  · rw [World.cell?_of_block (w := w) (w' := w') hb]; exact h4
theorem RepS.keep {w w' : World} {v : Value} {ts : List V} (h : RepS w v ts) (hb : Below w.heap.size w w') : RepS w' v ts := by
  induction h with
  | mk a b off cap ts sls ha hc hm hbb cells wfs kids ih =>
    refine .mk a b off cap ts sls ha hc hm (fun hne => Nat.lt_of_lt_of_le (hbb hne) hb.size) ?_ wfs ih
    intro i hi
    exact (cells i hi).keep (hb.block b (hbb (by intro e; subst e; simp at hi)))
theorem RepS.slice {w : World} {v : Value} {ts : List V} (h : RepS w v ts) : ∃ a cap, v = .slice a ts.length cap := by
  cases h with
  | mk a b off cap ts0 sls ha hc hm hbb cells wfs kids => exact ⟨a, cap, rfl⟩
theorem Rep.keep {w w' : World} {v : Value} {t : V} (h : Rep w v t) (hb : Below w.heap.size w w') : Rep w' v t := by
  obtain ⟨sl, rfl, hw, hr⟩ := h
  exact ⟨sl, rfl, hw, hr.keep hb⟩
theorem szs_mem {t : V} {ts : List V} (h : t ∈ ts) : t.sz + 1 ≤ szs ts := by
  induction ts with
  | nil => cases h
  | cons u us ih =>
    rw [szs]
    cases h with
    | head => omega
    | tail _ h => have := ih h; omega
theorem szs_length (ts : List V) : ts.length ≤ szs ts := by
  induction ts with
  | nil => simp
  | cons u us ih => rw [szs, List.length_cons]; omega
theorem szs_append (a b : List V) : szs (a ++ b) = szs a + szs b := by
  induction a with
  | nil => simp [szs]
  | cons u us ih => rw [List.cons_append, szs, szs, ih]; omega
theorem V.sz_eq (t : V) : t.sz = t.s.size + szs t.kids := by cases t; rw [V.sz]; rfl
theorem V.eta (t : V) : V.mk t.k t.n t.e t.s t.kids = t := by cases t; rfl
theorem cellsLaws : Tryd.prog.cellsOf 24 = 5 := by kernel_rfl
theorem in64_of_wf {n : Int} (h : (Lit.int .i64 n).wf = true) : In64 n := by
  simpa [Lit.wf, IntKind.min, IntKind.max, IntKind.signed, IntKind.bits, In64] using h
theorem addr_add (a : Addr) (n : Nat) (h : a.spot = none) : a.add n = ⟨a.block, a.off + n, none⟩ := by
  cases a with
  | mk b o s => simp at h; subst h; unfold Addr.add; split <;> simp_all
theorem cells5_some {w : World} {a : Addr} {i : Nat} {c0 c1 c2 c3 c4 : Value} (h : w.cells? 0 (a.add (i * 5)) 5 = some [c0, c1, c2, c3, c4]) :
    (i = 0 → a.spot = none) ∧ w.cell? ⟨a.block, a.off + i * 5, none⟩ = some c0 ∧ w.cell? ⟨a.block, a.off + i * 5 + 1, none⟩ = some c1 ∧ w.cell? ⟨a.block, a.off + i * 5 + 2, none⟩ = some c2 ∧ w.cell? ⟨a.block, a.off + i * 5 + 3, none⟩ = some c3 ∧ w.cell? ⟨a.block, a.off + i * 5 + 4, none⟩ = some c4 := by
  obtain ⟨_, _, h2⟩ := World.cells?_some h
  have h0 := h2 0 (by omega)
  have h1 := h2 1 (by omega)
  have h3 := h2 2 (by omega)
  have h4 := h2 3 (by omega)
  have h5 := h2 4 (by omega)
  have hs : (a.add (i * 5)).spot = none := by
    have : ((a.add (i * 5)).add 0) = a.add (i * 5) := by unfold Addr.add; simp
    rw [this] at h0
    cases hq : (a.add (i * 5)).spot with
    | none => rfl
    | some q => simp [World.cell?, hq] at h0; split at h0 <;> cases h0
  have hb : (a.add (i * 5)).block = a.block := by unfold Addr.add; split <;> rfl
  have ho : (a.add (i * 5)).off = a.off + i * 5 := by unfold Addr.add; split <;> simp_all
  rw [addr_add _ _ hs, hb, ho] at h0 h1 h3 h4 h5
  refine ⟨?_, by simpa using h0, by simpa using h1, by simpa using h3, by simpa using h4, by simpa using h5⟩
  intro e
  subst e
  have : a.add (0 * 5) = a := by unfold Addr.add; simp
  rw [this] at hs
  exact hs
theorem trod_value {H : Type} {enc : TypeId × Value → H} {w : World} {sp : Nat → Bool} {hd : Bool} :
    ∀ (fuel : Nat) (cs : List Value) (x : DataW H × List MemPlace), DataW.trod enc Tryd.prog w 0 sp hd fuel 24 cs = some x →
      ∃ (t : V) (sl : Value), cs = [.int .i64 t.k, .int .i64 t.n, .int .i64 t.e, .string t.s, sl] ∧ t.wf ∧ RepS w sl t.kids := by
  intro fuel
  induction fuel using Nat.strongRecOn with
  | _ fuel ih =>
    intro cs x h
    obtain ⟨xs, n, hn, rfl, hl, hlen, hf⟩ := DataW.trod_struct Tryd.underlying24 h
    rw [cellsLaws] at hl
    match cs, hl with
    | [c0, c1, c2, c3, c4], _ =>
    match xs, hlen with
    | [y0, y1, y2, y3, y4], _ =>
    have e0 : DataW.trod enc Tryd.prog w 0 sp hd n 3 ((List.drop 0 [c0, c1, c2, c3, c4]).take (Tryd.prog.cellsOf 3)) = some y0 := hf 0 _ rfl
    have e1 : DataW.trod enc Tryd.prog w 0 sp hd n 3 ((List.drop 1 [c0, c1, c2, c3, c4]).take (Tryd.prog.cellsOf 3)) = some y1 := hf 1 _ rfl
    have e2 : DataW.trod enc Tryd.prog w 0 sp hd n 3 ((List.drop 2 [c0, c1, c2, c3, c4]).take (Tryd.prog.cellsOf 3)) = some y2 := hf 2 _ rfl
    have e3 : DataW.trod enc Tryd.prog w 0 sp hd n 9 ((List.drop 3 [c0, c1, c2, c3, c4]).take (Tryd.prog.cellsOf 9)) = some y3 := hf 3 _ rfl
    have e4 : DataW.trod enc Tryd.prog w 0 sp hd n 22 ((List.drop 4 [c0, c1, c2, c3, c4]).take (Tryd.prog.cellsOf 22)) = some y4 := hf 4 _ rfl
    obtain ⟨z0, g0, _, w0⟩ := DataW.trod_int Tryd.underlying3 e0
    obtain ⟨z1, g1, _, w1⟩ := DataW.trod_int Tryd.underlying3 e1
    obtain ⟨z2, g2, _, w2⟩ := DataW.trod_int Tryd.underlying3 e2
    obtain ⟨z3, g3, _, w3⟩ := DataW.trod_string Tryd.underlying9 e3
    rw [show Tryd.prog.cellsOf 3 = 1 by kernel_rfl] at g0 g1 g2
    rw [show Tryd.prog.cellsOf 9 = 1 by kernel_rfl] at g3
    simp at g0 g1 g2 g3
    subst g0 g1 g2 g3
    have hw := And.intro (in64_of_wf w0) (And.intro (in64_of_wf w1) (And.intro (in64_of_wf w2) (show z3.size ≤ 9223372036854775807 by simpa [maxLen] using w3)))
    have h4 : (List.drop 4 [Value.int .i64 z0, .int .i64 z1, .int .i64 z2, .string z3, c4]).take (Tryd.prog.cellsOf 22) = [c4] := by
      rw [show Tryd.prog.cellsOf 22 = 1 by kernel_rfl]; rfl
    rw [h4] at e4
    rcases DataW.trod_slice Tryd.underlying22 e4 with ⟨hc, _⟩ | ⟨a, len, cap, elems, rest, n', hn', hc, _, _, hlc, hcm, hel, hes, _, _⟩
    · obtain rfl : c4 = .slice none 0 0 := by simpa using hc
      exact ⟨.mk z0 z1 z2 z3 [], .slice none 0 0, rfl, hw, .mk none 0 0 0 [] (fun _ => .nilIface) (by simp) (by simp) (by omega) (by simp) (by simp) (by simp) (by simp)⟩
    · obtain rfl : c4 = .slice (some a) len cap := by simpa using hc
      have key : ∀ i, ∃ (t : V) (sl : Value), i < len → (i = 0 → a.spot = none) ∧ Cells5 w a.block (a.off + i * 5) t sl ∧ t.wf ∧ RepS w sl t.kids := by
        intro i
        by_cases hi : i < len
        · have h1 := hes i hi
          rw [List.getElem?_eq_getElem (by omega), cellsLaws] at h1
          rcases hq : w.cells? 0 (a.add (i * 5)) 5 with _ | cs'
          · rw [hq] at h1; cases h1
          · rw [hq] at h1
            obtain ⟨t, sl, rfl, tw, tr⟩ := ih n' (by omega) cs' _ h1
            obtain ⟨q0, q1⟩ := cells5_some hq
            exact ⟨t, sl, fun _ => ⟨q0, q1, tw, tr⟩⟩
        · exact ⟨.mk 0 0 0 ByteArray.empty [], .nilIface, fun h => absurd h hi⟩
      have hT := fun i => Classical.choose_spec (Classical.choose_spec (key i))
      generalize hTT : (fun i => Classical.choose (key i)) = T at *
      generalize hSS : (fun i => Classical.choose (Classical.choose_spec (key i))) = S at *
      have hT' : ∀ i, i < len → (i = 0 → a.spot = none) ∧ Cells5 w a.block (a.off + i * 5) (T i) (S i) ∧ (T i).wf ∧ RepS w (S i) (T i).kids := by
        intro i hi; rw [← hTT, ← hSS]; exact hT i hi
      have hlen : ((List.range len).map T).length = len := by simp
      refine ⟨.mk z0 z1 z2 z3 ((List.range len).map T), .slice (some a) len cap, rfl, hw, ?_⟩
      have hr := RepS.mk (w := w) (some a) a.block a.off cap ((List.range len).map T) S ?_ (by omega) (by simpa [maxLen] using hcm) ?_ ?_ ?_ ?_
      · rw [hlen] at hr; exact hr
      · intro hne
        have h0 : 0 < len := by rcases Nat.eq_zero_or_pos len with e | e; (subst e; simp at hne); exact e
        have := (hT' 0 h0).1 rfl
        cases a; simp at this; subst this; rfl
      · intro hne
        have h0 : 0 < len := by rcases Nat.eq_zero_or_pos len with e | e; (subst e; simp at hne); exact e
        exact World.block_lt_of_cell? w ⟨a.block, a.off + 0 * 5, none⟩ (hT' 0 h0).2.1.1
      · intro i hi; rw [hlen] at hi; simpa using (hT' i hi).2.1
      · intro i hi; rw [hlen] at hi; simpa using (hT' i hi).2.2.1
      · intro i hi; rw [hlen] at hi; simpa using (hT' i hi).2.2.2
theorem open_V {H : Type} {enc : TypeId × Value → H} {w : World} {sp : Nat → Bool} {hd : Bool} {v : Value} {d : DataW H} {p : List MemPlace} (hv : ∃ cs, v = .agg cs)
    (h : DataW.Trod enc Tryd.prog w 0 sp hd 24 v d p) : ∃ t : V, Rep w v t := by
  obtain ⟨fuel, hf⟩ := h
  obtain ⟨t, sl, hc, hw, hr⟩ := trod_value fuel _ _ hf
  obtain ⟨cs, rfl⟩ := hv
  refine ⟨t, sl, ?_, hw, hr⟩
  rw [V.agg, ← Array.toArray_toList (xs := cs)]
  simp only [Value.cells] at hc
  rw [hc]
theorem okV {w : World} {r : Reach} {base : Nat} {v : Value} (h : Value.okWide Tryd.prog w r base 24 v) : ∃ cs, v = .agg cs := by
  unfold Value.okWide at h
  rw [Tryd.underlying24] at h
  obtain ⟨cs, rfl, _⟩ := h
  exact ⟨cs, rfl⟩
end Go.Proofs.YtiemlefmhleaeaaDoor
