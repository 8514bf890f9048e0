/- Lemmas for the statement of the last text of this claim: texts joined. -/
import Derived.WalkKit
import Derived.WalkSpells
import Derived.Deep.AppendSrc
import Derived.Laws.IdiomCopy
import Derived.Deep.Upon
import Derived.Lib.Hide
import Derived.WalkSmall
import Derived.Test.YtaphlemmlmdkiaaDoorRows
import Derived.ProofKit
import Derived.Lib.ValidLaws
import Derived.SliceStrings
import Derived.Deep.RegionHeld3
import Derived.Deep.QuietTactic
import Derived.BigQuiet
import Derived.Lib.Replace
import Derived.Lib.ItoaNum
import Derived.Lib.SplitLaws
import Derived.Test.YtaphlemmlmdkiaaDoorShelf
import Derived.Shelf.Unicode.ValidAny
import Derived.Lib.MapLaws
import Derived.WalkLawsBesides
namespace Go.Proofs.YtaphlemmlmdkiaaDoor
set_option linter.unusedSimpArgs false
set_option linter.unusedVariables false
set_option maxRecDepth 100000
open Go.RowKit
theorem heap_setCells_same (g : Nat) (e : TypeId) : ∀ (vs : List Value) (o : Nat) (w : World) (cur : Array Value), w.heap[g]? = some (.cells cur e (0, 0)) → o + vs.length ≤ cur.size →
    ∃ cur', (w.setCells g o vs).heap[g]? = some (.cells cur' e (0, 0)) ∧ cur'.size = cur.size ∧ cur'.toList = cur.toList.take o ++ vs ++ cur.toList.drop (o + vs.length)
  | [], o, w, cur, h, _ => ⟨cur, h, rfl, by simp⟩
  | v :: vs, o, w, cur, h, hl => by
    simp only [List.length_cons] at hl
    have h1 := heap_setCell_same w g o cur e v h
    obtain ⟨cur', h2, h3, h4⟩ := heap_setCells_same g e vs (o + 1) (w.setCell ⟨g, o, none⟩ v) _ h1 (by simp; omega)
    refine ⟨cur', h2, by rw [h3]; simp, ?_⟩
    rw [h4]
    have ho : o < cur.toList.length := by rw [Array.length_toList]; omega
    simp only [Array.toList_setIfInBounds, List.length_cons]
    rw [List.take_set, List.drop_set_of_lt (by omega), List.take_succ_eq_append_getElem ho]
    have h5 : (List.take o cur.toList ++ [cur.toList[o]]).set o v = List.take o cur.toList ++ [v] := by
      have h6 : (List.take o cur.toList).length = o := by rw [List.length_take]; omega
      rw [List.set_append, if_neg (by omega), h6, Nat.sub_self]
      rfl
    rw [h5, show o + 1 + vs.length = o + (vs.length + 1) by omega]
    simp

theorem below_step {B : Nat} {a b c : World} (h : Below B a b) (h2 : Below b.heap.size b c) (hB : B ≤ a.heap.size) : Below B a c :=
  h.trans (h2.mono (Nat.le_trans hB h.size))
theorem below_mark {B C : Nat} {a b c : World} (h : Below B a b) (h2 : Below C b c) (hB : B ≤ C) : Below B a c := h.trans (h2.mono hB)
theorem below_alloc {B : Nat} {a w : World} (h : Below B a w) (o : Obj) (hB : B ≤ a.heap.size) : Below B a (w.alloc o) := h.alloc (Nat.le_trans hB h.size) o
def FreshOr (w : World) (v v' : Value) : Prop := v'.ownBlock = v.ownBlock ∨ v'.ownBlock = some w.heap.size

section
variable {P : Program} {w : World}
theorem run_app (base : Nat) (t tx ty e : TypeId) (i : TypeInfo) (z : Value) (size bytes : Nat) (ht : P.underlying t = some (.slice e)) (hi : P.info? e = some i) (hz : i.zero = some z)
    (hsize : i.size = size) (hby : i.bytes = bytes) (hzs : z.cells.size = size)
    (v : Value) (n : Nat) (xs : List Value) (hown : w.ownsRow base e size v n xs)
    (x : Value) (m : Nat) (news : List Value) (hs : Src P size tx x m news w)
    (h63 : n + m ≤ 1099511627776) (hb8 : bytes ≤ 128) (hbase : base ≤ w.heap.size) :
    ∃ v' w', (Builtin.append_ #[t, tx] ty #[v, x]).run P w = .ok v' w' ∧ w'.ownsRow base e size v' (n + m) (xs ++ news) ∧ w.grownBy w' v.ownBlock ∧ FreshOr w v v' ∧
      (v' = .slice none 0 0 ↔ v = .slice none 0 0 ∧ m = 0) := by
  subst hsize
  subst hby
  have hlen : (xs ++ news).length = (n + m) * i.size := by rw [List.length_append, hown.1, hs.newsLen, Nat.add_mul]
  have hbytes : (n + m) * i.bytes ≤ 140737488355328 := Nat.le_trans (Nat.mul_le_mul h63 hb8) (by decide)
  have grown : ∀ (old : Nat), old < n + m → ∀ (row : Option Nat),
      (w.drew.alloc (.cells ((xs ++ news).toArray ++ Builtin.zeroCells z.cells (grownCap w (n + m) old e - (n + m))) e)).ownsRow base e i.size
        (.slice (some ⟨w.heap.size, 0, none⟩) (n + m) (grownCap w (n + m) old e)) (n + m) (xs ++ news) ∧
      w.grownBy (w.drew.alloc (.cells ((xs ++ news).toArray ++ Builtin.zeroCells z.cells (grownCap w (n + m) old e - (n + m))) e)) row := by
    intro old ho row
    have hge := grownCap_ge w (n + m) old e
    have hcm : grownCap w (n + m) old e ≤ maxLen := grownCap_le_maxLen w (n + m) old e (by simp only [maxLen]; omega)
    refine ⟨⟨hlen, .inr ⟨w.heap.size, _, _, rfl, hbase, heap_alloc_new w.drew _, hge, hcm, ?_, ?_⟩⟩, ⟨rfl, rfl, rfl, by simp, fun k hk _ => heap_alloc_old w.drew _ hk⟩⟩
    · simp only [Array.size_append, List.size_toArray, size_zeroCells, hzs, hlen, ← Nat.add_mul]
      congr 1
      omega
    · simp only [Array.toList_append, ← hlen]
      exact List.take_left
  rcases hown.2 with ⟨rfl, rfl⟩ | ⟨g, cap, cur, rfl, hbg, hg, hnc, hcm, hcs, htake⟩
  · have hx : xs = [] := List.eq_nil_of_length_eq_zero (by simpa using hown.1)
    subst hx
    by_cases hm : m = 0
    · subst hm
      have hn : news = [] := List.eq_nil_of_length_eq_zero (by simpa using hs.newsLen)
      subst hn
      have hc := hs.cells
      refine ⟨.slice none 0 0, w, ?_, World.ownsRow_nil w base e i.size, ⟨rfl, rfl, rfl, Nat.le_refl _, fun _ _ _ => rfl⟩, .inl rfl, by simp⟩
      rcases hs.kind with ⟨e', hk⟩ | hk <;> simp [Builtin.append_, run_underlying ht, run_underlying hk, sizeOf, typeInfo, hi, hs.len, hc]
    · have hr := run_append_grow_src (P := P) w t tx ty e i z ht hi hz none 0 0 [] (run_firstCells_none w.drew i.size 0 0 0) x m news hs (by omega) (by omega) (by have hb := hbytes; exact growslice_fits (by omega) hb)
      have hgr := grown 0 (by omega) (Value.ownBlock (.slice none 0 0))
      simp only [Nat.zero_add, List.nil_append] at hgr hr ⊢
      exact ⟨_, _, hr, hgr.1, hgr.2, .inr rfl, by simp [hm]⟩
  · by_cases hroom : n + m ≤ cap
    · have hfit : n * i.size + news.length ≤ cur.size := by rw [hs.newsLen, hcs, ← Nat.add_mul]; exact Nat.mul_le_mul_right _ hroom
      have hr := run_append_room_src (P := P) w t tx ty e i ht hi g 0 n cap x m news hs hroom
        (by intro j hj; rw [cell_of_row w g _ cur e (0, 0) hg, Array.getElem?_eq_getElem (by omega)]; rfl) (by intro j hj; exact frozen_of_row w g _ cur e hg)
      obtain ⟨cur', h1, h2, h3⟩ := heap_setCells_same g e news (0 + n * i.size) w cur hg (by omega)
      refine ⟨_, _, hr, ⟨hlen, .inr ⟨g, cap, cur', rfl, hbg, h1, hroom, hcm, by rw [h2]; exact hcs, ?_⟩⟩, ⟨World.os_setCells .., ?_, World.output_setCells .., ?_, fun k hk hne => World.heap_setCells_other _ _ _ _ hk (fun e => hne (by simp [Value.ownBlock, e]))⟩, .inl rfl, by simp⟩
      · rw [h3, Nat.zero_add, htake, ← hlen]
        exact List.take_left
      · have : ∀ (vs : List Value) (o : Nat) (w : World), (w.setCells g o vs).tape = w.tape := by
          intro vs; induction vs with
          | nil => intro o w; rfl
          | cons v vs ih => intro o w; exact ih _ _
        exact this _ _ _
      · have : ∀ (vs : List Value) (o : Nat) (w : World), (w.setCells g o vs).heap.size = w.heap.size := by
          intro vs; induction vs with
          | nil => intro o w; rfl
          | cons v vs ih => intro o w; exact (ih _ _).trans (by simp)
        exact Nat.le_of_eq (this _ _ _).symm
    · have holds : ∀ j u, xs[j]? = some u → w.cell? ((⟨g, 0, none⟩ : Addr).add j) = some u := hown.cells (g := g) rfl
      have hr := run_append_grow_src (P := P) w t tx ty e i z ht hi hz (some ⟨g, 0, none⟩) n cap xs (run_firstCells_some w.drew i.size n ⟨g, 0, none⟩ n cap xs hown.1 (by simpa using holds)) x m news hs (by omega) (by omega) (growslice_fits (by omega) hbytes)
      have hgr := grown cap (by omega) (Value.ownBlock (.slice (some ⟨g, 0, none⟩) n cap))
      exact ⟨_, _, hr, hgr.1, hgr.2, .inr rfl, by simp⟩

theorem wpList_app {ops : Array Oper} {rest : List Oper} {o : Oper} {a : Act} {Q : Exit → Act → World → Prop} (hgd : o.guard = none) (s x : Operand) (t tx : TypeId)
    (ho : o.op = .call { callee := .builtin .append, args := #[s, x], argTypes := #[t, tx] })
    (base : Nat) (e : TypeId) (i : TypeInfo) (z : Value) (size bytes : Nat) (ht : P.underlying t = some (.slice e)) (hi : P.info? e = some i) (hz : i.zero = some z)
    (hsize : i.size = size) (hby : i.bytes = bytes) (hzs : z.cells.size = size) (hb8 : bytes ≤ 128)
    (v : Value) (n : Nat) (xs : List Value) (hs : a.eval s = v) (hown : w.ownsRow base e size v n xs)
    (xv : Value) (hx : a.eval x = xv) (m : Nat) (news : List Value) (hsrc : Src P size tx xv m news w)
    (h63 : n + m ≤ 1099511627776) (hbase : base ≤ w.heap.size)
    (h : ∀ v' w', w'.ownsRow base e size v' (n + m) (xs ++ news) → w.grownBy w' v.ownBlock → FreshOr w v v' → (v' = .slice none 0 0 ↔ v = .slice none 0 0 ∧ m = 0) → wpList P ops Q rest (a.put o.dst v') w') : wpList P ops Q (o :: rest) a w := by
  refine wpList_plain hgd fun K hK => ?_
  obtain ⟨v', w', hr, h2, h3, h4, h5⟩ := run_app (P := P) (w := w) base t tx o.type e i z size bytes ht hi hz hsize hby hzs v n xs hown xv m news hsrc h63 hb8 hbase
  unfold Oper.wp execOp
  simp only [ho, resolve, invoke, builtin, Sem.run_bind, Sem.run_pure, Result.andThen_ok, List.map_toArray, List.map_cons, List.map_nil, hs, hx, hr]
  exact hK _ _ (h v' w' h2 h3 h4 h5)
theorem step_app {ops : Array Oper} {o : Oper} {a : Act} {K : Act → World → Prop} {Q : Exit → Act → World → Prop} {X : Prop} (hgd : o.guard = none) (s x : Operand) (t tx : TypeId)
    (ho : o.op = .call { callee := .builtin .append, args := #[s, x], argTypes := #[t, tx] })
    (base : Nat) (e : TypeId) (i : TypeInfo) (z : Value) (size bytes : Nat) (ht : P.underlying t = some (.slice e)) (hi : P.info? e = some i) (hz : i.zero = some z)
    (hsize : i.size = size) (hby : i.bytes = bytes) (hzs : z.cells.size = size) (hb8 : bytes ≤ 128)
    (v : Value) (n : Nat) (xs : List Value) (hs : a.eval s = v) (hown : w.ownsRow base e size v n xs)
    (xv : Value) (hx : a.eval x = xv) (m : Nat) (news : List Value) (hsrc : Src P size tx xv m news w)
    (h63 : n + m ≤ 1099511627776) (hbase : base ≤ w.heap.size)
    (h : ∀ v' w', w'.ownsRow base e size v' (n + m) (xs ++ news) → w.grownBy w' v.ownBlock → FreshOr w v v' → (v' = .slice none 0 0 ↔ v = .slice none 0 0 ∧ m = 0) → K (a.put o.dst v') w') :
    if Region.wanted o (yielded ops a.tmps) = true then Oper.wp P o a w K Q else X := by
  have hw : Region.wanted o (yielded ops a.tmps) = true := by simp [Region.wanted, hgd]
  rw [if_pos hw]
  obtain ⟨v', w', hr, h2, h3, h4, h5⟩ := run_app (P := P) (w := w) base t tx o.type e i z size bytes ht hi hz hsize hby hzs v n xs hown xv m news hsrc h63 hb8 hbase
  unfold Oper.wp execOp
  simp only [ho, resolve, invoke, builtin, Sem.run_bind, Sem.run_pure, Result.andThen_ok, List.map_toArray, List.map_cons, List.map_nil, hs, hx, hr]
  exact h v' w' h2 h3 h4 h5
end
end Go.Proofs.YtaphlemmlmdkiaaDoor
namespace Go.Proofs.YtaphlemmlmdkiaaDoor
set_option linter.unusedSimpArgs false
set_option linter.unusedVariables false
set_option maxRecDepth 100000
open Go.RowKit
def bys (l : List UInt8) : List Value := l.map fun c => Value.int .u8 c.toNat
abbrev bstr (l : List UInt8) : Value := .string ⟨l.toArray⟩
def BRow (w : World) (base : Nat) (v : Value) (l : List UInt8) : Prop := w.ownsRow base 5 1 v l.length (bys l)
theorem bys_length (l : List UInt8) : (bys l).length = l.length := by simp [bys]
theorem size_eq (s : ByteArray) : s.size = s.data.toList.length := by rw [Array.length_toList]; rfl
theorem BRow.lt {w : World} {base : Nat} {v : Value} {l : List UInt8} (h : BRow w base v l) : ∀ k, v.ownBlock = some k → base ≤ k ∧ k < w.heap.size := World.ownsRow.lt h
section
variable {w : World} {ops : Array Oper} {rest : List Oper} {o : Oper} {a : Act} {Q : Exit → Act → World → Prop}
end
theorem cell_new_one (w : World) (x : Value) (t : TypeId) : (w.alloc (.cells #[x] t)).cell? ⟨w.heap.size, 0, none⟩ = some x := by
  rw [cell_of_row (w.alloc (.cells #[x] t)) w.heap.size 0 #[x] t (0, 0) (heap_alloc_new w _)]; rfl
theorem BRow.made {w : World} {base : Nat} (l : List UInt8) (hb : base ≤ w.heap.size) (hl : l.length ≤ 1099511627776) : BRow (w.alloc (.cells (bys l).toArray 5)) base (.slice (some ⟨w.heap.size, 0, none⟩) l.length l.length) l := by
  have := World.ownsRow_lit (w := w) (base := base) (e := 5) (size := 1) (bys l).toArray l.length hb (by simp only [maxLen]; omega) (by simp [bys_length])
  simpa [BRow] using this
theorem run_str1 (W : World) (b : Nat) (x : Int) (h : W.cell? ⟨b, 0, none⟩ = some (.int .u8 x)) :
    (convert 70 9 (.slice (some ⟨b, 0, none⟩) 1 1)).run Tryd.prog W = .ok (bstr [UInt8.ofNat x.toNat]) W := by
  rw [run_convert_bytes_string W 70 9 5 _ _ _ Tryd.underlying70 Tryd.underlying5 Tryd.underlying9]
  rw [run_bytesToString W _ 1 1 [x] (by
    have h1 := run_loadCells_list (P := Tryd.prog) (w := W) ⟨b, 0, none⟩ [.int .u8 x] (by intro j v hv; match j, hv with | 0, hv => (simp at hv; subst hv; exact h))
    exact h1)]
  rfl
theorem bcell {W w1 : World} {B : Nat} (hb : Below B W w1) : (∀ b o, b < B → w1.cell? ⟨b, o, none⟩ = W.cell? ⟨b, o, none⟩) ∧ (∀ b o, b < B → w1.frozen? ⟨b, o, none⟩ = W.frozen? ⟨b, o, none⟩) :=
  ⟨fun b o h => hb.cell (p := ⟨b, o, none⟩) h, fun b o h => hb.frozen (p := ⟨b, o, none⟩) h⟩
end Go.Proofs.YtaphlemmlmdkiaaDoor
namespace Go.Proofs.YtaphlemmlmdkiaaDoor
set_option linter.unusedSimpArgs false
set_option linter.unusedVariables false
set_option maxRecDepth 100000
open Go.RowKit
end Go.Proofs.YtaphlemmlmdkiaaDoor
namespace Go.Proofs.YtaphlemmlmdkiaaDoor
set_option linter.unusedSimpArgs false
set_option linter.unusedVariables false
set_option maxRecDepth 100000
open Go.RowKit
inductive V where
  | mk (k n e : Int) (s : ByteArray) (kids : List V)
namespace V
set_option linter.unusedSimpArgs false
def k : V → Int | mk k _ _ _ _ => k
def n : V → Int | mk _ n _ _ _ => n
def e : V → Int | mk _ _ e _ _ => e
def s : V → ByteArray | mk _ _ _ s _ => s
def kids : V → List V | mk _ _ _ _ ks => ks
end V
theorem ba_ext {a b : ByteArray} (h : a.data.toList = b.data.toList) : a = b := by
  cases a; cases b; simp at h; rw [h]
instance baDec : DecidableEq ByteArray := fun a b => decidable_of_decidable_of_iff (p := a.data.toList = b.data.toList) ⟨ba_ext, fun h => by rw [h]⟩
theorem ba_eqv (a b : ByteArray) : (a.toList == b.toList) = decide (a = b) := by
  rw [ByteArray.toList_eq, ByteArray.toList_eq, Bool.eq_iff_iff]
  simp only [beq_iff_eq, decide_eq_true_eq]
  exact ⟨ba_ext, fun h => by rw [h]⟩
theorem ba_yes {a b : ByteArray} (h : a = b) : (a.toList == b.toList) = true := by rw [ba_eqv]; simpa using h
theorem ba_no {a b : ByteArray} (h : ¬ a = b) : (a.toList == b.toList) = false := by rw [ba_eqv]; simpa using h
mutual
def V.sz : V → Nat
  | .mk _ _ _ s ks => s.size + szs ks
def szs : List V → Nat
  | [] => 0
  | t :: ts => 1 + t.sz + szs ts
 end
def In64 (n : Int) : Prop := -9223372036854775808 ≤ n ∧ n ≤ 9223372036854775807
def V.wf (t : V) : Prop := In64 t.k ∧ In64 t.n ∧ In64 t.e ∧ t.s.size ≤ 9223372036854775807
def Cells5 (w : World) (b o : Nat) (t : V) (sl : Value) : Prop :=
  w.cell? ⟨b, o, none⟩ = some (.int .i64 t.k) ∧ w.cell? ⟨b, o + 1, none⟩ = some (.int .i64 t.n) ∧ w.cell? ⟨b, o + 2, none⟩ = some (.int .i64 t.e) ∧ w.cell? ⟨b, o + 3, none⟩ = some (.string t.s) ∧ w.cell? ⟨b, o + 4, none⟩ = some sl
inductive RepS (w : World) : Value → List V → Prop
  | mk (a : Option Addr) (b off cap : Nat) (ts : List V) (sls : Nat → Value) (ha : ts ≠ [] → a = some ⟨b, off, none⟩) (hc : ts.length ≤ cap) (hm : cap ≤ 9223372036854775807)
      (hb : ts ≠ [] → b < w.heap.size) (cells : ∀ i (h : i < ts.length), Cells5 w b (off + i * 5) ts[i] (sls i)) (wfs : ∀ i (h : i < ts.length), ts[i].wf)
      (kids : ∀ i (h : i < ts.length), RepS w (sls i) ts[i].kids) : RepS w (.slice a ts.length cap) ts
def V.agg (t : V) (sl : Value) : Value := .agg #[.int .i64 t.k, .int .i64 t.n, .int .i64 t.e, .string t.s, sl]
def Rep (w : World) (v : Value) (t : V) : Prop := ∃ sl, v = t.agg sl ∧ t.wf ∧ RepS w sl t.kids
theorem Cells5.keep {w w' : World} {b o : Nat} {t : V} {sl : Value} (h : Cells5 w b o t sl) (hb : w'.heap[b]? = w.heap[b]?) : Cells5 w' b o t sl := by
  obtain ⟨h0, h1, h2, h3, h4⟩ := h
  refine ⟨?_, ?_, ?_, ?_, ?_⟩
  · rw [World.cell?_of_block (w := w) (w' := w') hb]; exact h0
  · rw [World.cell?_of_block (w := w) (w' := w') hb]; exact h1
  · rw [World.cell?_of_block (w := w) (w' := w') hb]; exact h2
  · rw [World.cell?_of_block (w := w) (w' := w') hb]; exact h3
  · rw [World.cell?_of_block (w := w) (w' := w') hb]; exact h4
theorem RepS.keep {w w' : World} {v : Value} {ts : List V} (h : RepS w v ts) (hb : Below w.heap.size w w') : RepS w' v ts := by
  induction h with
  | mk a b off cap ts sls ha hc hm hbb cells wfs kids ih =>
    refine .mk a b off cap ts sls ha hc hm (fun hne => Nat.lt_of_lt_of_le (hbb hne) hb.size) ?_ wfs ih
    intro i hi
    exact (cells i hi).keep (hb.block b (hbb (by intro e; subst e; simp at hi)))
theorem RepS.slice {w : World} {v : Value} {ts : List V} (h : RepS w v ts) : ∃ a cap, v = .slice a ts.length cap := by
  cases h with
  | mk a b off cap ts0 sls ha hc hm hbb cells wfs kids => exact ⟨a, cap, rfl⟩
theorem Rep.keep {w w' : World} {v : Value} {t : V} (h : Rep w v t) (hb : Below w.heap.size w w') : Rep w' v t := by
  obtain ⟨sl, rfl, hw, hr⟩ := h
  exact ⟨sl, rfl, hw, hr.keep hb⟩
theorem szs_mem {t : V} {ts : List V} (h : t ∈ ts) : t.sz + 1 ≤ szs ts := by
  induction ts with
  | nil => cases h
  | cons u us ih =>
    rw [szs]
    cases h with
    | head => omega
    | tail _ h => have := ih h; omega
theorem szs_length (ts : List V) : ts.length ≤ szs ts := by
  induction ts with
  | nil => simp
  | cons u us ih => rw [szs, List.length_cons]; omega
theorem szs_append (a b : List V) : szs (a ++ b) = szs a + szs b := by
  induction a with
  | nil => simp [szs]
  | cons u us ih => rw [List.cons_append, szs, szs, ih]; omega
theorem V.sz_eq (t : V) : t.sz = t.s.size + szs t.kids := by cases t; rw [V.sz]; rfl
theorem V.eta (t : V) : V.mk t.k t.n t.e t.s t.kids = t := by cases t; rfl
theorem cellsLaws : Tryd.prog.cellsOf 24 = 5 := by kernel_rfl
theorem in64_of_wf {n : Int} (h : (Lit.int .i64 n).wf = true) : In64 n := by
  simpa [Lit.wf, IntKind.min, IntKind.max, IntKind.signed, IntKind.bits, In64] using h
theorem addr_add (a : Addr) (n : Nat) (h : a.spot = none) : a.add n = ⟨a.block, a.off + n, none⟩ := by
  cases a with
  | mk b o s => simp at h; subst h; unfold Addr.add; split <;> simp_all
theorem cells5_some {w : World} {a : Addr} {i : Nat} {c0 c1 c2 c3 c4 : Value} (h : w.cells? 0 (a.add (i * 5)) 5 = some [c0, c1, c2, c3, c4]) :
    (i = 0 → a.spot = none) ∧ w.cell? ⟨a.block, a.off + i * 5, none⟩ = some c0 ∧ w.cell? ⟨a.block, a.off + i * 5 + 1, none⟩ = some c1 ∧ w.cell? ⟨a.block, a.off + i * 5 + 2, none⟩ = some c2 ∧ w.cell? ⟨a.block, a.off + i * 5 + 3, none⟩ = some c3 ∧ w.cell? ⟨a.block, a.off + i * 5 + 4, none⟩ = some c4 := by
  obtain ⟨_, _, h2⟩ := World.cells?_some h
  have h0 := h2 0 (by omega)
  have h1 := h2 1 (by omega)
  have h3 := h2 2 (by omega)
  have h4 := h2 3 (by omega)
  have h5 := h2 4 (by omega)
  have hs : (a.add (i * 5)).spot = none := by
    have : ((a.add (i * 5)).add 0) = a.add (i * 5) := by unfold Addr.add; simp
    rw [this] at h0
    cases hq : (a.add (i * 5)).spot with
    | none => rfl
    | some q => simp [World.cell?, hq] at h0; split at h0 <;> cases h0
  have hb : (a.add (i * 5)).block = a.block := by unfold Addr.add; split <;> rfl
  have ho : (a.add (i * 5)).off = a.off + i * 5 := by unfold Addr.add; split <;> simp_all
  rw [addr_add _ _ hs, hb, ho] at h0 h1 h3 h4 h5
  refine ⟨?_, by simpa using h0, by simpa using h1, by simpa using h3, by simpa using h4, by simpa using h5⟩
  intro e
  subst e
  have : a.add (0 * 5) = a := by unfold Addr.add; simp
  rw [this] at hs
  exact hs
theorem trod_value {H : Type} {enc : TypeId × Value → H} {w : World} {sp : Nat → Bool} {hd : Bool} :
    ∀ (fuel : Nat) (cs : List Value) (x : DataW H × List MemPlace), DataW.trod enc Tryd.prog w 0 sp hd fuel 24 cs = some x →
      ∃ (t : V) (sl : Value), cs = [.int .i64 t.k, .int .i64 t.n, .int .i64 t.e, .string t.s, sl] ∧ t.wf ∧ RepS w sl t.kids := by
  intro fuel
  induction fuel using Nat.strongRecOn with
  | _ fuel ih =>
    intro cs x h
    obtain ⟨xs, n, hn, rfl, hl, hlen, hf⟩ := DataW.trod_struct Tryd.underlying24 h
    rw [cellsLaws] at hl
    match cs, hl with
    | [c0, c1, c2, c3, c4], _ =>
    match xs, hlen with
    | [y0, y1, y2, y3, y4], _ =>
    have e0 : DataW.trod enc Tryd.prog w 0 sp hd n 3 ((List.drop 0 [c0, c1, c2, c3, c4]).take (Tryd.prog.cellsOf 3)) = some y0 := hf 0 _ rfl
    have e1 : DataW.trod enc Tryd.prog w 0 sp hd n 3 ((List.drop 1 [c0, c1, c2, c3, c4]).take (Tryd.prog.cellsOf 3)) = some y1 := hf 1 _ rfl
    have e2 : DataW.trod enc Tryd.prog w 0 sp hd n 3 ((List.drop 2 [c0, c1, c2, c3, c4]).take (Tryd.prog.cellsOf 3)) = some y2 := hf 2 _ rfl
    have e3 : DataW.trod enc Tryd.prog w 0 sp hd n 9 ((List.drop 3 [c0, c1, c2, c3, c4]).take (Tryd.prog.cellsOf 9)) = some y3 := hf 3 _ rfl
    have e4 : DataW.trod enc Tryd.prog w 0 sp hd n 22 ((List.drop 4 [c0, c1, c2, c3, c4]).take (Tryd.prog.cellsOf 22)) = some y4 := hf 4 _ rfl
    obtain ⟨z0, g0, _, w0⟩ := DataW.trod_int Tryd.underlying3 e0
    obtain ⟨z1, g1, _, w1⟩ := DataW.trod_int Tryd.underlying3 e1
    obtain ⟨z2, g2, _, w2⟩ := DataW.trod_int Tryd.underlying3 e2
    obtain ⟨z3, g3, _, w3⟩ := DataW.trod_string Tryd.underlying9 e3
    rw [show Tryd.prog.cellsOf 3 = 1 by kernel_rfl] at g0 g1 g2
    rw [show Tryd.prog.cellsOf 9 = 1 by kernel_rfl] at g3
    simp at g0 g1 g2 g3
    subst g0 g1 g2 g3
    have hw := And.intro (in64_of_wf w0) (And.intro (in64_of_wf w1) (And.intro (in64_of_wf w2) (show z3.size ≤ 9223372036854775807 by simpa [maxLen] using w3)))
    have h4 : (List.drop 4 [Value.int .i64 z0, .int .i64 z1, .int .i64 z2, .string z3, c4]).take (Tryd.prog.cellsOf 22) = [c4] := by
      rw [show Tryd.prog.cellsOf 22 = 1 by kernel_rfl]; rfl
    rw [h4] at e4
    rcases DataW.trod_slice Tryd.underlying22 e4 with ⟨hc, _⟩ | ⟨a, len, cap, elems, rest, n', hn', hc, _, _, hlc, hcm, hel, hes, _, _⟩
    · obtain rfl : c4 = .slice none 0 0 := by simpa using hc
      exact ⟨.mk z0 z1 z2 z3 [], .slice none 0 0, rfl, hw, .mk none 0 0 0 [] (fun _ => .nilIface) (by simp) (by simp) (by omega) (by simp) (by simp) (by simp) (by simp)⟩
    · obtain rfl : c4 = .slice (some a) len cap := by simpa using hc
      have key : ∀ i, ∃ (t : V) (sl : Value), i < len → (i = 0 → a.spot = none) ∧ Cells5 w a.block (a.off + i * 5) t sl ∧ t.wf ∧ RepS w sl t.kids := by
        intro i
        by_cases hi : i < len
        · have h1 := hes i hi
          rw [List.getElem?_eq_getElem (by omega), cellsLaws] at h1
          rcases hq : w.cells? 0 (a.add (i * 5)) 5 with _ | cs'
          · rw [hq] at h1; cases h1
          · rw [hq] at h1
            obtain ⟨t, sl, rfl, tw, tr⟩ := ih n' (by omega) cs' _ h1
            obtain ⟨q0, q1⟩ := cells5_some hq
            exact ⟨t, sl, fun _ => ⟨q0, q1, tw, tr⟩⟩
        · exact ⟨.mk 0 0 0 ByteArray.empty [], .nilIface, fun h => absurd h hi⟩
      have hT := fun i => Classical.choose_spec (Classical.choose_spec (key i))
      generalize hTT : (fun i => Classical.choose (key i)) = T at *
      generalize hSS : (fun i => Classical.choose (Classical.choose_spec (key i))) = S at *
      have hT' : ∀ i, i < len → (i = 0 → a.spot = none) ∧ Cells5 w a.block (a.off + i * 5) (T i) (S i) ∧ (T i).wf ∧ RepS w (S i) (T i).kids := by
        intro i hi; rw [← hTT, ← hSS]; exact hT i hi
      have hlen : ((List.range len).map T).length = len := by simp
      refine ⟨.mk z0 z1 z2 z3 ((List.range len).map T), .slice (some a) len cap, rfl, hw, ?_⟩
      have hr := RepS.mk (w := w) (some a) a.block a.off cap ((List.range len).map T) S ?_ (by omega) (by simpa [maxLen] using hcm) ?_ ?_ ?_ ?_
      · rw [hlen] at hr; exact hr
      · intro hne
        have h0 : 0 < len := by rcases Nat.eq_zero_or_pos len with e | e; (subst e; simp at hne); exact e
        have := (hT' 0 h0).1 rfl
        cases a; simp at this; subst this; rfl
      · intro hne
        have h0 : 0 < len := by rcases Nat.eq_zero_or_pos len with e | e; (subst e; simp at hne); exact e
        exact World.block_lt_of_cell? w ⟨a.block, a.off + 0 * 5, none⟩ (hT' 0 h0).2.1.1
      · intro i hi; rw [hlen] at hi; simpa using (hT' i hi).2.1
      · intro i hi; rw [hlen] at hi; simpa using (hT' i hi).2.2.1
      · intro i hi; rw [hlen] at hi; simpa using (hT' i hi).2.2.2
theorem open_V {H : Type} {enc : TypeId × Value → H} {w : World} {sp : Nat → Bool} {hd : Bool} {v : Value} {d : DataW H} {p : List MemPlace} (hv : ∃ cs, v = .agg cs)
    (h : DataW.Trod enc Tryd.prog w 0 sp hd 24 v d p) : ∃ t : V, Rep w v t := by
  obtain ⟨fuel, hf⟩ := h
  obtain ⟨t, sl, hc, hw, hr⟩ := trod_value fuel _ _ hf
  obtain ⟨cs, rfl⟩ := hv
  refine ⟨t, sl, ?_, hw, hr⟩
  rw [V.agg, ← Array.toArray_toList (xs := cs)]
  simp only [Value.cells] at hc
  rw [hc]
theorem okV {w : World} {r : Reach} {base : Nat} {v : Value} (h : Value.okWide Tryd.prog w r base 24 v) : ∃ cs, v = .agg cs := by
  unfold Value.okWide at h
  rw [Tryd.underlying24] at h
  obtain ⟨cs, rfl, _⟩ := h
  exact ⟨cs, rfl⟩
end Go.Proofs.YtaphlemmlmdkiaaDoor
namespace Go.Proofs.YtaphlemmlmdkiaaDoor
set_option linter.unusedSimpArgs false
set_option linter.unusedVariables false
set_option maxRecDepth 100000
open Go.RowKit
def txt (s : ByteArray) : Bool := Lib.validD s.data.toList
mutual
def V.dec : (a b : V) → Decidable (a = b)
  | .mk k n e s ks, .mk k' n' e' s' ks' =>
    if h1 : k = k' ∧ n = n' ∧ e = e' ∧ s = s' then
      match decs ks ks' with
      | isTrue h => isTrue (by obtain ⟨rfl, rfl, rfl, rfl⟩ := h1; rw [h])
      | isFalse h => isFalse (fun x => h (by injection x))
    else isFalse (fun x => h1 (by injection x with a b c d; exact ⟨a, b, c, d⟩))
def decs : (a b : List V) → Decidable (a = b)
  | [], [] => isTrue rfl
  | [], _ :: _ => isFalse (by simp)
  | _ :: _, [] => isFalse (by simp)
  | a :: xs, b :: bs => match V.dec a b with
    | isFalse h => isFalse (fun x => h (by injection x))
    | isTrue h => match decs xs bs with
      | isTrue h2 => isTrue (by rw [h, h2])
      | isFalse h2 => isFalse (fun x => h2 (by injection x))
 end
instance : DecidableEq V := V.dec
def fits10 (n : Int) : Nat → Option Int
  | 0 => some n
  | e + 1 => if -9223372036854775808 ≤ n * 10 ∧ n * 10 ≤ 9223372036854775807 then fits10 (n * 10) e else none
def decOk (n e : Int) : Bool :=
  decide (n.tmod 10 ≠ 0 ∧ -999999999999999999 ≤ n ∧ n ≤ 999999999999999999 ∧ -20 ≤ e ∧ e ≤ 20 ∧ e ≠ 0) && !(decide (0 < e) && (fits10 n e.toNat).isSome)
def isKeyB (t : V) : Bool := decide (t.k = 5 ∨ t.k = 3)
def evV : List V → List V
  | [] => []
  | [t] => [t]
  | t :: _ :: ts => t :: evV ts
def keyEq (a b : V) : Prop := a.k = b.k ∧ a.n = b.n ∧ a.s = b.s
instance (a b : V) : Decidable (keyEq a b) := by unfold keyEq; exact inferInstance
def keysB (eq : V → V → Bool) (ts : List V) : Bool := ts.all isKeyB && decide (ts.Pairwise fun a b => eq a b = false)
def pairsB (ts : List V) : Bool := keysB (fun a b => decide (keyEq a b)) (evV ts) && decide (ts.length % 2 = 0) && decide (ts.length ≤ 300)
def pairsI (ts : List V) : Bool := keysB (fun a b => decide (a = b)) (evV ts) && decide (ts.length % 2 = 0)
def nodeB (t : V) : Bool :=
  if t.k = 0 ∨ t.k = 1 ∨ t.k = 2 ∨ t.k = 7 ∨ t.k = 8 then decide (t.n = 0 ∧ t.e = 0 ∧ t.s.size = 0)
  else if t.k = 3 then decide (t.e = 0 ∧ t.s.size = 0)
  else if t.k = 4 then decOk t.n t.e && decide (t.s.size = 0)
  else if t.k = 5 then decide (t.n = 0 ∧ t.e = 0 ∧ t.s.size ≤ 2000) && txt t.s
  else if t.k = 6 then decide (t.n = 0 ∧ t.e = 0 ∧ t.s.size ≤ 2000)
  else if t.k = 9 then decide (0 ≤ t.n ∧ t.n ≤ 1000000 ∧ t.e = 0 ∧ t.s.size = 0)
  else false
def areB (t : V) : Bool :=
  if t.k = 7 then true else if t.k = 9 then decide (t.kids.length = 1) else if t.k = 8 then pairsI t.kids else decide (t.kids.length = 0)
def ownB (t : V) : Bool :=
  nodeB t && (if t.k = 7 then true else if t.k = 9 then decide (t.kids.length = 1) else if t.k = 8 then pairsB t.kids else decide (t.kids.length = 0))
mutual
def rightB : V → Int → Bool
  | .mk k n e s ks, d => decide (0 ≤ d) && ownB (.mk k n e s ks) && rightsB ks (d - 1)
def rightsB : List V → Int → Bool
  | [], _ => true
  | t :: ts, d => rightB t d && rightsB ts d
 end
mutual
def V.nodes : V → Nat
  | .mk _ _ _ _ ks => 1 + nodess ks
def nodess : List V → Nat
  | [] => 0
  | t :: ts => t.nodes + nodess ts
 end
theorem V.nodes_eq (t : V) : t.nodes = 1 + nodess t.kids := by cases t; rw [V.nodes]; rfl
theorem rightB_eq (t : V) (d : Int) : rightB t d = (decide (0 ≤ d) && ownB t && rightsB t.kids (d - 1)) := by cases t; rw [rightB]; rfl
theorem nodess_length : ∀ ts : List V, ts.length ≤ nodess ts
  | [] => by simp
  | t :: ts => by have := nodess_length ts; have := V.nodes_eq t; simp only [nodess, List.length_cons]; omega
theorem nodess_append : ∀ a b : List V, nodess (a ++ b) = nodess a + nodess b
  | [], b => by simp [nodess]
  | t :: a, b => by simp only [List.cons_append, nodess, nodess_append a b]; omega
mutual
theorem nodes_sz : ∀ t : V, t.nodes ≤ 1 + t.sz
  | .mk k n e s ks => by have := nodess_sz ks; simp only [V.nodes, V.sz]; omega
theorem nodess_sz : ∀ ts : List V, nodess ts ≤ szs ts
  | [] => by simp [nodess]
  | t :: ts => by have h1 := nodes_sz t; have h2 := nodess_sz ts; simp only [nodess, szs]; omega
 end
def okT (t : V) : Bool := rightB t 12 && decide (t.nodes ≤ 300)
theorem rightsB_all (ts : List V) (d : Int) : rightsB ts d = ts.all fun t => rightB t d := by
  induction ts with
  | nil => rfl
  | cons t ts ih => simp only [rightsB, List.all_cons, ih]
def impStep (t : V) (d L : Int) : Bool := decide (0 ≤ L - 1 ∧ d ≤ 12 ∧ (t.kids.length : Int) ≤ L - 1) && nodeB t && areB t
mutual
def imp : V → Int → Int → Option Int
  | .mk k n e s ks, d, L => if impStep (.mk k n e s ks) d L then imps ks (d + 1) (L - 1) else none
def imps : List V → Int → Int → Option Int
  | [], _, L => some L
  | t :: ts, d, L => (imp t d L).bind fun L' => imps ts d L'
 end
theorem imp_eq (t : V) (d L : Int) : imp t d L = if impStep t d L then imps t.kids (d + 1) (L - 1) else none := by cases t; rw [imp]; rfl
theorem mem_evV {t : V} : ∀ {ts : List V}, t ∈ evV ts → t ∈ ts
  | [], h => by simp [evV] at h
  | [u], h => by simpa [evV] using h
  | u :: v :: ts, h => by
    simp only [evV, List.mem_cons] at h
    rcases h with h | h
    · simp [h]
    · have := mem_evV h; simp [this]
theorem ba_empty {s : ByteArray} (h : s.size = 0) : s = ⟨#[]⟩ := by cases s; rename_i d; simp [ByteArray.size] at h; simp [h]
theorem key_full {t : V} (hk : isKeyB t = true) (hn : nodeB t = true) (hr : t.kids.length = 0) : t = if t.k = 5 then .mk 5 0 0 t.s [] else .mk 3 t.n 0 ⟨#[]⟩ [] := by
  have hk' : t.k = 5 ∨ t.k = 3 := of_decide_eq_true hk
  have hr' : t.kids = [] := List.eq_nil_of_length_eq_zero hr
  have he := V.eta t
  unfold nodeB at hn
  rcases hk' with h5 | h3
  · rw [if_pos h5]
    rw [if_neg (by omega), if_neg (by omega), if_neg (by omega), if_pos h5] at hn
    simp only [Bool.and_eq_true, decide_eq_true_eq] at hn
    rw [h5, hn.1.1, hn.1.2.1, hr'] at he
    exact he.symm
  · rw [if_neg (by omega)]
    rw [if_neg (by omega), if_pos h3] at hn
    simp only [decide_eq_true_eq] at hn
    rw [h3, hn.1, ba_empty hn.2, hr'] at he
    exact he.symm
theorem keyEq_iff {a b : V} (ha : isKeyB a = true ∧ nodeB a = true ∧ a.kids.length = 0) (hb : isKeyB b = true ∧ nodeB b = true ∧ b.kids.length = 0) : keyEq a b ↔ a = b := by
  constructor
  · rintro ⟨h1, h2, h3⟩
    rw [key_full ha.1 ha.2.1 ha.2.2, key_full hb.1 hb.2.1 hb.2.2, h1, h2, h3]
  · rintro rfl; exact ⟨rfl, rfl, rfl⟩
theorem pairwise_congr {α : Type} {R S : α → α → Prop} {l : List α} (h : ∀ a ∈ l, ∀ b ∈ l, R a b ↔ S a b) : l.Pairwise R ↔ l.Pairwise S := by
  induction l with
  | nil => simp
  | cons x l ih =>
    simp only [List.pairwise_cons]
    rw [ih (fun a ha b hb => h a (List.mem_cons_of_mem _ ha) b (List.mem_cons_of_mem _ hb))]
    constructor
    · rintro ⟨h1, h2⟩; exact ⟨fun a ha => (h x (List.mem_cons_self ..) a (List.mem_cons_of_mem _ ha)).1 (h1 a ha), h2⟩
    · rintro ⟨h1, h2⟩; exact ⟨fun a ha => (h x (List.mem_cons_self ..) a (List.mem_cons_of_mem _ ha)).2 (h1 a ha), h2⟩
theorem rightB_leaf {t : V} {d : Int} (h : rightB t d = true) : nodeB t = true ∧ (isKeyB t = true → t.kids.length = 0) := by
  rw [rightB_eq] at h
  simp only [Bool.and_eq_true, ownB] at h
  refine ⟨h.1.2.1, fun hk => ?_⟩
  have h2 := h.1.2.2
  simp only [isKeyB, decide_eq_true_eq] at hk
  rw [if_neg (by omega), if_neg (by omega), if_neg (by omega)] at h2
  simpa using h2
theorem pairs_same {ts : List V} {d : Int} (h : rightsB ts d = true) (hl : ts.length ≤ 300) : pairsB ts = pairsI ts := by
  rw [rightsB_all, List.all_eq_true] at h
  unfold pairsB pairsI keysB
  rw [decide_eq_true hl, Bool.and_true]
  congr 1
  by_cases ha : (evV ts).all isKeyB = true
  · rw [ha, Bool.true_and, Bool.true_and, decide_eq_decide]
    rw [List.all_eq_true] at ha
    apply pairwise_congr
    intro a hA b hB
    have h1 := rightB_leaf (h a (mem_evV hA))
    have h2 := rightB_leaf (h b (mem_evV hB))
    rw [decide_eq_false_iff_not, decide_eq_false_iff_not, keyEq_iff ⟨ha a hA, h1.1, h1.2 (ha a hA)⟩ ⟨ha b hB, h2.1, h2.2 (ha b hB)⟩]
  · rw [Bool.eq_false_iff.2 ha, Bool.false_and, Bool.false_and]
theorem own_are {t : V} {d : Int} (h : rightsB t.kids d = true) (hl : t.kids.length ≤ 300) : ownB t = (nodeB t && areB t) := by
  unfold ownB areB
  rw [pairs_same h hl]
mutual
theorem imp_is : ∀ (t : V) (d L : Int), 0 ≤ d → 0 ≤ L → L ≤ 300 → imp t d L = if rightB t (12 - d) = true ∧ (t.nodes : Int) ≤ L then some (L - t.nodes) else none
  | .mk k n e s ks, d, L, hd, hL, hL3 => by
    have hlen := nodess_length ks
    rw [imp, rightB, V.nodes]
    by_cases h1 : 0 ≤ L - 1
    · rw [imps_is ks (d + 1) (L - 1) (by omega) h1 (by omega)]
      rw [show 12 - (d + 1) = 12 - d - 1 by omega]
      by_cases hr : rightsB ks (12 - d - 1) = true ∧ (nodess ks : Int) ≤ L - 1
      · rw [if_pos hr]
        have ho := own_are (t := .mk k n e s ks) hr.1 (by simp only [V.kids]; omega)
        rw [ho]
        by_cases hs : impStep (.mk k n e s ks) d L = true
        · rw [if_pos hs]
          simp only [impStep, Bool.and_eq_true] at hs
          have hd1 := of_decide_eq_true hs.1.1
          rw [if_pos ⟨by rw [decide_eq_true (show 0 ≤ 12 - d by omega), hr.1, hs.1.2, hs.2]; rfl, by omega⟩]
          congr 1; omega
        · rw [if_neg hs, if_neg]
          rintro ⟨h2, h3⟩
          simp only [Bool.and_eq_true, decide_eq_true_eq] at h2
          apply hs
          simp only [impStep, Bool.and_eq_true]
          exact ⟨⟨decide_eq_true ⟨h1, by omega, by show (ks.length : Int) ≤ _; omega⟩, h2.1.2.1⟩, h2.1.2.2⟩
      · rw [if_neg hr]
        have hno : ¬ ((decide (0 ≤ 12 - d) && ownB (.mk k n e s ks) && rightsB ks (12 - d - 1)) = true ∧ ((1 + nodess ks : Nat) : Int) ≤ L) := by
          rintro ⟨h2, h3⟩
          simp only [Bool.and_eq_true] at h2
          exact hr ⟨h2.2, by omega⟩
        rw [if_neg hno]
        split <;> rfl
    · rw [if_neg, if_neg]
      · rintro ⟨_, h3⟩; omega
      · simp [impStep]; omega
theorem imps_is : ∀ (ts : List V) (d L : Int), 0 ≤ d → 0 ≤ L → L ≤ 300 → imps ts d L = if rightsB ts (12 - d) = true ∧ (nodess ts : Int) ≤ L then some (L - nodess ts) else none
  | [], d, L, hd, hL, hL3 => by rw [imps, if_pos ⟨rfl, by simpa [nodess] using hL⟩]; simp [nodess]
  | t :: ts, d, L, hd, hL, hL3 => by
    rw [imps, imp_is t d L hd hL hL3, rightsB, nodess]
    by_cases h1 : rightB t (12 - d) = true ∧ (t.nodes : Int) ≤ L
    · rw [if_pos h1, Option.bind_some, imps_is ts d (L - t.nodes) hd (by omega) (by omega)]
      by_cases h2 : rightsB ts (12 - d) = true ∧ (nodess ts : Int) ≤ L - t.nodes
      · rw [if_pos h2, if_pos ⟨by rw [h1.1, h2.1]; rfl, by omega⟩]; congr 1; omega
      · rw [if_neg h2, if_neg]
        rintro ⟨h3, h4⟩
        simp only [Bool.and_eq_true] at h3
        exact h2 ⟨h3.2, by omega⟩
    · rw [if_neg h1, if_neg]
      · rfl
      · rintro ⟨h3, h4⟩
        simp only [Bool.and_eq_true] at h3
        exact h1 ⟨h3.1, by omega⟩
 end
theorem imp_ok (t : V) : (imp t 0 300).isSome = okT t := by
  rw [imp_is t 0 300 (by omega) (by omega) (by omega)]
  unfold okT
  rw [show (12 : Int) - 0 = 12 by omega]
  by_cases h : rightB t 12 = true ∧ (t.nodes : Int) ≤ 300
  · rw [if_pos h]; simp [h.1]; omega
  · rw [if_neg h]
    cases h2 : rightB t 12
    · rfl
    · simp [h2] at h; simp; omega
end Go.Proofs.YtaphlemmlmdkiaaDoor
namespace Go.Proofs.YtaphlemmlmdkiaaDoor
set_option linter.unusedSimpArgs false
set_option linter.unusedVariables false
set_option maxRecDepth 100000
open Go.RowKit
inductive OwnS (w : World) : (Nat → Prop) → Value → List V → Prop
  | mk (F : Nat → Prop) (a : Option Addr) (b off cap : Nat) (ts : List V) (sls : Nat → Value) (Fs : Nat → Nat → Prop) (ha : ts ≠ [] → a = some ⟨b, off, none⟩) (hc : ts.length ≤ cap) (hm : cap ≤ 9223372036854775807)
      (hb : ts ≠ [] → F b ∧ ∃ cur e, w.heap[b]? = some (.cells cur e (0, 0)))
      (hF : ∀ i, i < ts.length → ∀ x, Fs i x → F x ∧ x ≠ b) (hd : ∀ i j, i < j → j < ts.length → ∀ x, Fs i x → ¬ Fs j x)
      (cells : ∀ i (h : i < ts.length), Cells5 w b (off + i * 5) ts[i] (sls i)) (wfs : ∀ i (h : i < ts.length), ts[i].wf)
      (kids : ∀ i (h : i < ts.length), OwnS w (Fs i) (sls i) ts[i].kids) : OwnS w F (.slice a ts.length cap) ts
theorem lt_of_heap {w : World} {b : Nat} {o : Obj} (h : w.heap[b]? = some o) : b < w.heap.size := by
  rcases Nat.lt_or_ge b w.heap.size with h1 | h1
  · exact h1
  · rw [Array.getElem?_eq_none h1] at h; cases h
theorem OwnS.rep {w : World} {F : Nat → Prop} {v : Value} {ts : List V} (h : OwnS w F v ts) : RepS w v ts := by
  induction h with
  | mk F a b off cap ts sls Fs ha hc hm hb hF hd cells wfs kids ih =>
    exact .mk a b off cap ts sls ha hc hm (fun hne => by obtain ⟨_, cur, e, h⟩ := hb hne; exact lt_of_heap h) cells wfs ih
theorem OwnS.mono {w : World} {F F' : Nat → Prop} {v : Value} {ts : List V} (h : OwnS w F v ts) (hF : ∀ x, F x → F' x) : OwnS w F' v ts := by
  cases h with
  | mk F0 a b off cap ts0 sls Fs ha hc hm hb hFF hd cells wfs kids =>
    exact .mk F' a b off cap ts sls Fs ha hc hm (fun hne => ⟨hF _ (hb hne).1, (hb hne).2⟩) (fun i hi x hx => ⟨hF _ (hFF i hi x hx).1, (hFF i hi x hx).2⟩) hd cells wfs kids
theorem OwnS.keep {w w' : World} {F : Nat → Prop} {v : Value} {ts : List V} (h : OwnS w F v ts) (hk : ∀ x, F x → x < w.heap.size → w'.heap[x]? = w.heap[x]?) : OwnS w' F v ts := by
  induction h with
  | mk F a b off cap ts sls Fs ha hc hm hb hF hd cells wfs kids ih =>
    have e : ts ≠ [] → w'.heap[b]? = w.heap[b]? := fun hne => by obtain ⟨h1, cur, e, h2⟩ := hb hne; exact hk b h1 (lt_of_heap h2)
    refine .mk F a b off cap ts sls Fs ha hc hm (fun hne => ⟨(hb hne).1, by rw [e hne]; exact (hb hne).2⟩) hF hd ?_ wfs (fun i hi => ih i hi (fun x hx hxs => hk x (hF i hi x hx).1 hxs))
    intro i hi
    exact (cells i hi).keep (e (by intro e; subst e; simp at hi))
theorem OwnS.bound {w : World} {F : Nat → Prop} {v : Value} {ts : List V} (h : OwnS w F v ts) : OwnS w (fun x => F x ∧ x < w.heap.size) v ts := by
  induction h with
  | mk F a b off cap ts sls Fs ha hc hm hb hF hd cells wfs kids ih =>
    refine .mk _ a b off cap ts sls (fun i x => Fs i x ∧ x < w.heap.size) ha hc hm (fun hne => ⟨⟨(hb hne).1, ?_⟩, (hb hne).2⟩) (fun i hi x hx => ⟨⟨(hF i hi x hx.1).1, hx.2⟩, (hF i hi x hx.1).2⟩) (fun i j hij hj x hx hx' => hd i j hij hj x hx.1 hx'.1) cells wfs ih
    obtain ⟨_, cur, e, h⟩ := hb hne; exact lt_of_heap h
theorem OwnS.stay {w w' : World} {B : Nat} {v : Value} {ts : List V} (h : OwnS w (fun x => B ≤ x) v ts) (hb : Below w.heap.size w w') : OwnS w' (fun x => B ≤ x) v ts :=
  h.keep (fun x _ hx => hb.block x hx)
theorem OwnS.set {w : World} {F : Nat → Prop} {v : Value} {ts : List V} (h : OwnS w F v ts) (p : Addr) (u : Value) (hp : ¬ F p.block) : OwnS (w.setCell p u) F v ts :=
  h.keep (fun x hx _ => Below.heap_setCell _ _ _ _ (fun e => hp (e ▸ hx)))
theorem OwnS.alloc {w : World} {F : Nat → Prop} {v : Value} {ts : List V} (h : OwnS w F v ts) (o : Obj) : OwnS (w.alloc o) F v ts :=
  h.keep (fun x _ hs => Below.heap_alloc _ _ _ hs)
theorem OwnS.drew {w : World} {F : Nat → Prop} {v : Value} {ts : List V} (h : OwnS w F v ts) : OwnS w.drew F v ts :=
  h.keep (fun _ _ _ => rfl)
theorem OwnS.nil (w : World) (F : Nat → Prop) : OwnS w F (.slice none 0 0) [] :=
  .mk F none 0 0 0 [] (fun _ => .nilIface) (fun _ _ => False) (by simp) (by simp) (by omega) (by simp) (by simp) (by simp) (by simp) (by simp) (by simp)
theorem OwnS.slice {w : World} {F : Nat → Prop} {v : Value} {ts : List V} (h : OwnS w F v ts) : ∃ a cap, v = .slice a ts.length cap := by
  cases h with
  | mk F0 a b off cap ts0 sls Fs ha hc hm hb hFF hd cells wfs kids => exact ⟨a, cap, rfl⟩
def flat : List V → List Value → List Value
  | t :: ts, sl :: sls => .int .i64 t.k :: .int .i64 t.n :: .int .i64 t.e :: .string t.s :: sl :: flat ts sls
  | _, _ => []
theorem flat_length : ∀ (ts : List V) (sls : List Value), sls.length = ts.length → (flat ts sls).length = ts.length * 5
  | [], _, _ => by simp [flat]
  | t :: ts, [], h => by simp at h
  | t :: ts, sl :: sls, h => by simp only [flat, List.length_cons] at *; rw [flat_length ts sls (by omega)]; omega
theorem flat_append : ∀ (ts us : List V) (sls sms : List Value), sls.length = ts.length → flat (ts ++ us) (sls ++ sms) = flat ts sls ++ flat us sms
  | [], us, [], sms, _ => by simp [flat]
  | [], us, _ :: _, sms, h => by simp at h
  | t :: ts, us, [], sms, h => by simp at h
  | t :: ts, us, sl :: sls, sms, h => by simp only [flat, List.cons_append]; rw [flat_append ts us sls sms (by simpa using h)]
theorem flat_get : ∀ (ts : List V) (sls : List Value) (i : Nat) (h : i < ts.length) (h2 : i < sls.length),
    (flat ts sls)[i * 5]? = some (.int .i64 ts[i].k) ∧ (flat ts sls)[i * 5 + 1]? = some (.int .i64 ts[i].n) ∧ (flat ts sls)[i * 5 + 2]? = some (.int .i64 ts[i].e) ∧ (flat ts sls)[i * 5 + 3]? = some (.string ts[i].s) ∧ (flat ts sls)[i * 5 + 4]? = some sls[i]
  | [], _, i, h, _ => by simp at h
  | t :: ts, [], i, _, h => by simp at h
  | t :: ts, sl :: sls, 0, _, _ => by simp [flat]
  | t :: ts, sl :: sls, i + 1, h, h2 => by
    have := flat_get ts sls i (by simpa using h) (by simpa using h2)
    simp only [flat, show (i + 1) * 5 = i * 5 + 5 by omega]
    simpa using this
structure VRow (w : World) (base : Nat) (E : TypeId) (G : Nat → Prop) (v : Value) (ts : List V) (sls : List Value) (Fs : Nat → Nat → Prop) : Prop where
  row : w.ownsRow base E 5 v ts.length (flat ts sls)
  len : sls.length = ts.length
  wfs : ∀ i (h : i < ts.length), ts[i].wf
  kids : ∀ i (h : i < ts.length), OwnS w (Fs i) (sls.getD i undef) ts[i].kids
  sub : ∀ i, i < ts.length → ∀ x, Fs i x → G x
  dis : ∀ i j, i < j → j < ts.length → ∀ x, Fs i x → ¬ Fs j x
  own : ∀ g, v.ownBlock = some g → ¬ G g
  inG : ∀ x, G x → base ≤ x ∧ x < w.heap.size
def VRows (w : World) (base : Nat) (E : TypeId) (G : Nat → Prop) (v : Value) (ts : List V) : Prop := ∃ sls Fs, VRow w base E G v ts sls Fs
theorem VRows.own {w : World} {base : Nat} {E : TypeId} {G : Nat → Prop} {v : Value} {ts : List V} (h : VRows w base E G v ts) : OwnS w (fun x => base ≤ x) v ts := by
  obtain ⟨sls, Fs, h⟩ := h
  rcases h.row.2 with ⟨rfl, hn⟩ | ⟨g, cap, cur, rfl, hbg, hg, hnc, hcm, hcs, htake⟩
  · obtain rfl : ts = [] := List.eq_nil_of_length_eq_zero hn
    exact OwnS.nil _ _
  · have hcell : ∀ j u, (flat ts sls)[j]? = some u → w.cell? ⟨g, j, none⟩ = some u := by
      intro j u hu
      have := h.row.cells (g := g) rfl j u hu
      rwa [addr_add _ _ rfl, Nat.zero_add] at this
    refine .mk _ (some ⟨g, 0, none⟩) g 0 cap ts (fun i => sls.getD i undef) Fs (fun _ => rfl) hnc (by simpa [maxLen] using hcm) (fun _ => ⟨hbg, cur, E, hg⟩) ?_ h.dis ?_ h.wfs h.kids
    · intro i hi x hx
      have hG := h.sub i hi x hx
      exact ⟨(h.inG x hG).1, by intro e; subst e; exact h.own x rfl hG⟩
    · intro i hi
      have hi2 : i < sls.length := by rw [h.len]; exact hi
      obtain ⟨h0, h1, h2, h3, h4⟩ := flat_get ts sls i hi hi2
      rw [Nat.zero_add, List.getD_eq_getElem?_getD, List.getElem?_eq_getElem hi2]
      exact ⟨hcell _ _ h0, hcell _ _ h1, hcell _ _ h2, hcell _ _ h3, hcell _ _ h4⟩
theorem VRows.inG {w : World} {base : Nat} {E : TypeId} {G : Nat → Prop} {v : Value} {ts : List V} (h : VRows w base E G v ts) : ∀ x, G x → base ≤ x ∧ x < w.heap.size := by
  obtain ⟨sls, Fs, h⟩ := h; exact h.inG
theorem VRows.nil (w : World) (base : Nat) (E : TypeId) : VRows w base E (fun _ => False) (.slice none 0 0) [] :=
  ⟨[], fun _ _ => False, ⟨World.ownsRow_nil w base E 5, rfl, by simp, by simp, by simp, by simp, by simp, by simp⟩⟩
theorem VRows.lt {w : World} {base : Nat} {E : TypeId} {G : Nat → Prop} {v : Value} {ts : List V} (h : VRows w base E G v ts) : ∀ k, v.ownBlock = some k → base ≤ k ∧ k < w.heap.size := by
  obtain ⟨sls, Fs, h⟩ := h; exact h.row.lt
theorem VRows.keep {w w' : World} {base : Nat} {E : TypeId} {G : Nat → Prop} {v : Value} {ts : List V} (h : VRows w base E G v ts) (hb : Below w.heap.size w w') : VRows w' base E G v ts := by
  obtain ⟨sls, Fs, h⟩ := h
  refine ⟨sls, Fs, ⟨h.row.kept (row := none) ⟨hb.os, hb.tape, hb.output, hb.size, fun k hk _ => hb.block k hk⟩ ?_, h.len, h.wfs, fun i hi => (h.kids i hi).keep (fun x _ hx => hb.block x hx), h.sub, h.dis, h.own, fun x hx => ⟨(h.inG x hx).1, Nat.lt_of_lt_of_le (h.inG x hx).2 hb.size⟩⟩⟩
  cases v.ownBlock <;> simp
theorem VRows.snoc {w w' : World} {base : Nat} {E : TypeId} {G F : Nat → Prop} {v v' : Value} {ts : List V} {t : V} {sl : Value} (h : VRows w base E G v ts) (ht : t.wf) (ho : OwnS w F sl t.kids)
    (hF : ∀ x, F x → base ≤ x ∧ x < w.heap.size ∧ ¬ G x ∧ v.ownBlock ≠ some x)
    (hrow : ∀ sls, w.ownsRow base E 5 v ts.length (flat ts sls) → w'.ownsRow base E 5 v' (ts.length + 1) (flat ts sls ++ flat [t] [sl])) (hg : w.grownBy w' v.ownBlock) (hfr : FreshOr w v v') :
    VRows w' base E (fun x => G x ∨ F x) v' (ts ++ [t]) := by
  obtain ⟨sls, Fs, h⟩ := h
  have hk : ∀ x, (G x ∨ F x) → x < w.heap.size → w'.heap[x]? = w.heap[x]? := by
    intro x hx hs
    refine hg.block x hs (fun e => ?_)
    rcases hx with hx | hx
    · exact h.own x e.symm hx
    · exact (hF x hx).2.2.2 e.symm
  refine ⟨sls ++ [sl], fun i => if i < ts.length then Fs i else F, ?_, by simp [h.len], ?_, ?_, ?_, ?_, ?_, ?_⟩
  · rw [flat_append _ _ _ _ h.len, List.length_append]; exact hrow sls h.row
  · intro i hi
    rw [List.length_append] at hi
    by_cases hlt : i < ts.length
    · rw [List.getElem_append_left hlt]; exact h.wfs i hlt
    · have : i = ts.length := by simp at hi; omega
      subst this; simpa using ht
  · intro i hi
    rw [List.length_append] at hi
    by_cases hlt : i < ts.length
    · have h1 := h.kids i hlt
      rw [if_pos hlt, List.getElem_append_left hlt]
      have : (sls ++ [sl]).getD i undef = sls.getD i undef := by
        rw [List.getD_eq_getElem?_getD, List.getD_eq_getElem?_getD, List.getElem?_append_left (by rw [h.len]; exact hlt)]
      rw [this]
      exact h1.keep (fun x hx hs => hk x (.inl (h.sub i hlt x hx)) hs)
    · have : i = ts.length := by simp at hi; omega
      subst this
      have e : (sls ++ [sl]).getD ts.length undef = sl := by rw [List.getD_eq_getElem?_getD, ← h.len]; simp
      rw [if_neg hlt, e]
      simpa using ho.keep (fun x hx hs => hk x (.inr hx) hs)
  · intro i hi x hx
    by_cases hlt : i < ts.length
    · simp only [if_pos hlt] at hx; exact .inl (h.sub i hlt x hx)
    · simp only [if_neg hlt] at hx; exact .inr hx
  · intro i j hij hj x hx hx'
    rw [List.length_append] at hj
    have hi : i < ts.length := by simp at hj; omega
    simp only [if_pos hi] at hx
    by_cases hlt : j < ts.length
    · simp only [if_pos hlt] at hx'; exact h.dis i j hij hlt x hx hx'
    · simp only [if_neg hlt] at hx'; exact (hF x hx').2.2.1 (h.sub i hi x hx)
  · intro g hg' hG
    rcases hfr with e | e
    · rw [e] at hg'
      rcases hG with hG | hG
      · exact h.own g hg' hG
      · exact (hF g hG).2.2.2 hg'
    · rw [e] at hg'
      simp only [Option.some.injEq] at hg'
      subst hg'
      rcases hG with hG | hG
      · have := (h.inG _ hG).2; omega
      · have := (hF _ hG).2.1; omega
  · intro x hx
    rcases hx with hx | hx
    · exact ⟨(h.inG x hx).1, Nat.lt_of_lt_of_le (h.inG x hx).2 hg.size⟩
    · exact ⟨(hF x hx).1, Nat.lt_of_lt_of_le (hF x hx).2.1 hg.size⟩
theorem flat_set : ∀ (ts : List V) (sls : List Value) (i : Nat) (t : V) (sl : Value), i < ts.length → sls.length = ts.length →
    (((((flat ts sls).set (i * 5) (.int .i64 t.k)).set (i * 5 + 1) (.int .i64 t.n)).set (i * 5 + 2) (.int .i64 t.e)).set (i * 5 + 3) (.string t.s)).set (i * 5 + 4) sl = flat (ts.set i t) (sls.set i sl)
  | [], _, i, _, _, h, _ => by simp at h
  | u :: ts, [], i, _, _, _, h => by simp at h
  | u :: ts, sm :: sls, 0, t, sl, _, _ => by simp [flat]
  | u :: ts, sm :: sls, i + 1, t, sl, h, h2 => by
    have := flat_set ts sls i t sl (by simpa using h) (by simpa using h2)
    simp only [flat, List.set_cons_succ, show (i + 1) * 5 = i * 5 + 5 by omega, show i * 5 + 5 + 1 = i * 5 + 1 + 5 by omega, show i * 5 + 5 + 2 = i * 5 + 2 + 5 by omega, show i * 5 + 5 + 3 = i * 5 + 3 + 5 by omega, show i * 5 + 5 + 4 = i * 5 + 4 + 5 by omega]
    rw [this]
def put5 (w : World) (g o : Nat) (t : V) (sl : Value) : World :=
  ((((w.setCell ⟨g, o, none⟩ (.int .i64 t.k)).setCell ⟨g, o + 1, none⟩ (.int .i64 t.n)).setCell ⟨g, o + 2, none⟩ (.int .i64 t.e)).setCell ⟨g, o + 3, none⟩ (.string t.s)).setCell ⟨g, o + 4, none⟩ sl
theorem grownBy_cell (w : World) (g o : Nat) (u : Value) : w.grownBy (w.setCell ⟨g, o, none⟩ u) (some g) :=
  ⟨rfl, rfl, rfl, by simp, fun k _ hne => heap_setCell_other w ⟨g, o, none⟩ k u (fun e => hne (by rw [e]))⟩
theorem grownBy_trans {a b c : World} {r : Option Nat} (h : a.grownBy b r) (k : b.grownBy c r) : a.grownBy c r :=
  ⟨k.os.trans h.os, k.tape.trans h.tape, k.output.trans h.output, Nat.le_trans h.size k.size, fun i hi hr => (k.block i (Nat.lt_of_lt_of_le hi h.size) hr).trans (h.block i hi hr)⟩
theorem grownBy_put5 (w : World) (g o : Nat) (t : V) (sl : Value) : w.grownBy (put5 w g o t sl) (some g) :=
  grownBy_trans (grownBy_trans (grownBy_trans (grownBy_trans (grownBy_cell _ _ _ _) (grownBy_cell _ _ _ _)) (grownBy_cell _ _ _ _)) (grownBy_cell _ _ _ _)) (grownBy_cell _ _ _ _)
theorem VRows.set {w : World} {base : Nat} {E : TypeId} {G F : Nat → Prop} {g n cap i : Nat} {ts : List V} {t : V} {sl : Value} (h : VRows w base E G (.slice (some ⟨g, 0, none⟩) n cap) ts) (hi : i < ts.length) (ht : t.wf) (ho : OwnS w F sl t.kids)
    (hF : ∀ x, F x → base ≤ x ∧ x < w.heap.size ∧ ¬ G x ∧ x ≠ g) :
    VRows (put5 w g (i * 5) t sl) base E (fun x => G x ∨ F x) (.slice (some ⟨g, 0, none⟩) n cap) (ts.set i t) := by
  obtain ⟨sls, Fs, h⟩ := h
  have hn : n = ts.length := by
    rcases h.row.2 with ⟨h', _⟩ | ⟨g', cap', cur, h', _⟩ <;> simp at h'; exact h'.2.1
  subst hn
  have hgr := grownBy_put5 w g (i * 5) t sl
  have hk : ∀ x, (G x ∨ F x) → x < w.heap.size → (put5 w g (i * 5) t sl).heap[x]? = w.heap[x]? := by
    intro x hx hs
    refine hgr.block x hs (fun e => ?_)
    simp only [Option.some.injEq] at e
    rcases hx with hx | hx
    · exact h.own x (by rw [e]; rfl) hx
    · exact (hF x hx).2.2.2 e
  refine ⟨sls.set i sl, fun j => if j = i then F else Fs j, ?_, by simp [h.len], ?_, ?_, ?_, ?_, ?_, ?_⟩
  · rw [List.length_set, ← flat_set ts sls i t sl hi h.len]
    exact ((((((h.row.stored (i * 5) (.int .i64 t.k)).1).stored (i * 5 + 1) (.int .i64 t.n)).1.stored (i * 5 + 2) (.int .i64 t.e)).1.stored (i * 5 + 3) (.string t.s)).1.stored (i * 5 + 4) sl).1
  · intro j hj
    rw [List.getElem_set]
    split
    · exact ht
    · exact h.wfs j (by simpa using hj)
  · intro j hj
    have hj' : j < ts.length := by simpa using hj
    rw [List.getElem_set]
    by_cases hji : j = i
    · subst hji
      have e : (sls.set j sl).getD j undef = sl := by rw [List.getD_eq_getElem?_getD, List.getElem?_set_self (by rw [h.len]; exact hj')]; rfl
      rw [if_pos rfl, e, if_pos rfl]
      exact ho.keep (fun x hx hs => hk x (.inr hx) hs)
    · have e : (sls.set i sl).getD j undef = sls.getD j undef := by rw [List.getD_eq_getElem?_getD, List.getD_eq_getElem?_getD, List.getElem?_set_ne (fun e => hji e.symm)]
      rw [if_neg hji, e, if_neg (fun e => hji e.symm)]
      exact (h.kids j hj').keep (fun x hx hs => hk x (.inl (h.sub j hj' x hx)) hs)
  · intro j hj x hx
    have hj' : j < ts.length := by simpa using hj
    by_cases hji : j = i
    · simp only [if_pos hji] at hx; exact .inr hx
    · simp only [if_neg hji] at hx; exact .inl (h.sub j hj' x hx)
  · intro j k hjk hk' x hx hx'
    have hk2 : k < ts.length := by simpa using hk'
    by_cases hji : j = i
    · simp only [if_pos hji] at hx
      have hki : ¬ k = i := by omega
      simp only [if_neg hki] at hx'
      exact (hF x hx).2.2.1 (h.sub k hk2 x hx')
    · simp only [if_neg hji] at hx
      by_cases hki : k = i
      · simp only [if_pos hki] at hx'
        exact (hF x hx').2.2.1 (h.sub j (by omega) x hx)
      · simp only [if_neg hki] at hx'
        exact h.dis j k hjk hk2 x hx hx'
  · intro q hq hG
    rcases hG with hG | hG
    · exact h.own q hq hG
    · simp [Value.ownBlock] at hq; exact (hF q hG).2.2.2 hq.symm
  · intro x hx
    rcases hx with hx | hx
    · exact ⟨(h.inG x hx).1, Nat.lt_of_lt_of_le (h.inG x hx).2 hgr.size⟩
    · exact ⟨(hF x hx).1, Nat.lt_of_lt_of_le (hF x hx).2.1 hgr.size⟩
theorem fill_set {α : Type} (z : α) (ts : List α) (k : Nat) (h : k < ts.length) : (ts.take k ++ List.replicate (ts.length - k) z).set k ts[k] = ts.take (k + 1) ++ List.replicate (ts.length - (k + 1)) z := by
  rw [List.set_append, if_neg (by rw [List.length_take]; omega)]
  have : k - (ts.take k).length = 0 := by rw [List.length_take]; omega
  rw [this, show ts.length - k = (ts.length - (k + 1)) + 1 by omega, List.replicate_succ, List.set_cons_zero, List.take_succ_eq_append_getElem h, List.append_assoc]
  rfl
def V0 : V := .mk 0 0 0 ⟨#[]⟩ []
theorem made_flat (n : Nat) : (madeCells #[.int .i64 0, .int .i64 0, .int .i64 0, .string ⟨#[]⟩, .slice none 0 0] (n * 5)).toList = flat (List.replicate n V0) (List.replicate n (.slice none 0 0)) := by
  apply List.ext_getElem?
  intro j
  by_cases hj : j < n * 5
  · have h := flat_get (List.replicate n V0) (List.replicate n (.slice none 0 0)) (j / 5) (by simp; omega) (by simp; omega)
    simp only [List.getElem_replicate] at h
    have h5 : j % 5 < 5 := Nat.mod_lt _ (by decide)
    have hm : (madeCells #[Value.int .i64 0, .int .i64 0, .int .i64 0, .string ⟨#[]⟩, .slice none 0 0] (n * 5)).toList[j]? = some ((#[Value.int .i64 0, .int .i64 0, .int .i64 0, .string ⟨#[]⟩, .slice none 0 0] : Array Value)[j % 5]'(by simpa using h5)) := by
      simp [madeCells, hj, h5]
    rw [hm]
    have hjj : j = j / 5 * 5 + j % 5 := by omega
    generalize j / 5 = q at *
    generalize hr : j % 5 = r at *
    subst hjj
    match r, h5 with
    | 0, _ => exact h.1.symm
    | 1, _ => rw [h.2.1]; rfl
    | 2, _ => rw [h.2.2.1]; rfl
    | 3, _ => rw [h.2.2.2.1]; rfl
    | 4, _ => rw [h.2.2.2.2]; rfl
  · rw [List.getElem?_eq_none (by simp [madeCells]; omega), List.getElem?_eq_none (by rw [flat_length _ _ (by simp)]; simp; omega)]
theorem VRows.made {w : World} {base : Nat} {E : TypeId} {g n cap : Nat} (h : w.ownsRow base E 5 (.slice (some ⟨g, 0, none⟩) n cap) n (madeCells #[.int .i64 0, .int .i64 0, .int .i64 0, .string ⟨#[]⟩, .slice none 0 0] (n * 5)).toList) :
    VRows w base E (fun _ => False) (.slice (some ⟨g, 0, none⟩) n cap) (List.replicate n V0) := by
  refine ⟨List.replicate n (.slice none 0 0), fun _ _ => False, ⟨by rw [← made_flat]; simpa using h, by simp, ?_, ?_, by simp, by simp, by simp, by simp⟩⟩
  · intro i hi; simp [V0, V.wf, In64, V.k, V.n, V.e, V.s, ByteArray.size]
  · intro i hi
    simp at hi
    rw [List.getD_eq_getElem?_getD, List.getElem?_eq_getElem (by simpa using hi)]
    simp [V0, V.kids]
    exact OwnS.nil _ _
theorem VRows.cells {w : World} {base : Nat} {E : TypeId} {G : Nat → Prop} {g n cap i : Nat} {ts : List V} (h : VRows w base E G (.slice (some ⟨g, 0, none⟩) n cap) ts) (hi : i < ts.length) :
    ∃ sl, Cells5 w g (i * 5) ts[i] sl ∧ ∀ o, w.frozen? ⟨g, o, none⟩ = false := by
  obtain ⟨sls, Fs, h⟩ := h
  have hi2 : i < sls.length := by rw [h.len]; exact hi
  obtain ⟨h0, h1, h2, h3, h4⟩ := flat_get ts sls i hi hi2
  have hcell : ∀ j u, (flat ts sls)[j]? = some u → w.cell? ⟨g, j, none⟩ = some u := by
    intro j u hu
    have := h.row.cells (g := g) rfl j u hu
    rwa [addr_add _ _ rfl, Nat.zero_add] at this
  have hn : n = ts.length := by
    rcases h.row.2 with ⟨h', _⟩ | ⟨g', cap', cur, h', _⟩ <;> simp at h'; exact h'.2.1
  subst hn
  exact ⟨sls[i], ⟨hcell _ _ h0, hcell _ _ h1, hcell _ _ h2, hcell _ _ h3, hcell _ _ h4⟩, fun o => h.row.frozenAt o⟩
def ValRet (w : World) (t : V) (e : Ending) (w' : World) : Prop := ∃ sl, e = .returned (t.agg sl) ∧ t.wf ∧ OwnS w' (fun x => w.heap.size ≤ x) sl t.kids ∧ Below w.heap.size w w'
def ListRet (w : World) (ts : List V) (e : Ending) (w' : World) : Prop := ∃ v, e = .returned v ∧ OwnS w' (fun x => w.heap.size ≤ x) v ts ∧ Below w.heap.size w w'
end Go.Proofs.YtaphlemmlmdkiaaDoor
namespace Go.Proofs.YtaphlemmlmdkiaaDoor
set_option linter.unusedSimpArgs false
set_option linter.unusedVariables false
set_option maxRecDepth 100000
open Go.RowKit Go.ChangeShapes Go.WideShapes
def RepSs (w : World) (v : Value) (l : List ByteArray) : Prop := ∃ a b off cap, v = .slice a l.length cap ∧ (l ≠ [] → a = some ⟨b, off, none⟩ ∧ b < w.heap.size) ∧ l.length ≤ cap ∧ cap ≤ 9223372036854775807 ∧
  ∀ i (h : i < l.length), w.cell? ⟨b, off + i, none⟩ = some (.string l[i]) ∧ l[i].size ≤ 9223372036854775807
theorem RepSs.keep {w w' : World} {v : Value} {l : List ByteArray} (h : RepSs w v l) (hb : Below w.heap.size w w') : RepSs w' v l := by
  obtain ⟨a, b, off, cap, hv, ha, hc, hm, hcell⟩ := h
  refine ⟨a, b, off, cap, hv, fun hne => ⟨(ha hne).1, Nat.lt_of_lt_of_le (ha hne).2 hb.size⟩, hc, hm, fun i hi => ⟨?_, (hcell i hi).2⟩⟩
  have hne : l ≠ [] := by intro e; subst e; simp at hi
  rw [World.cell?_of_block (a := ⟨b, off + i, none⟩) (hb.block b (ha hne).2)]
  exact (hcell i hi).1
theorem info_str : (Tryd.prog.info? 9).map (fun i => (i.zero, i.size, i.bytes)) = some (some (.string ⟨#[]⟩), 1, 16) := by kernel_rfl
def SRow (w : World) (base : Nat) (v : Value) (l : List ByteArray) : Prop := w.ownsRow base 9 1 v l.length (l.map .string) ∧ ∀ s ∈ l, s.size ≤ 9223372036854775807
theorem SRow.lt {w : World} {base : Nat} {v : Value} {l : List ByteArray} (h : SRow w base v l) : ∀ k, v.ownBlock = some k → base ≤ k ∧ k < w.heap.size := World.ownsRow.lt h.1
theorem SRow.rep {w : World} {base : Nat} {v : Value} {l : List ByteArray} (h : SRow w base v l) : RepSs w v l := by
  obtain ⟨h, hs⟩ := h
  rcases h.2 with ⟨rfl, hn⟩ | ⟨g, cap, cur, rfl, hbg, hg, hnc, hcm, hcs, htake⟩
  · obtain rfl : l = [] := List.eq_nil_of_length_eq_zero hn
    exact ⟨none, 0, 0, 0, rfl, by simp, by simp, by omega, by simp⟩
  · refine ⟨some ⟨g, 0, none⟩, g, 0, cap, rfl, fun _ => ⟨rfl, by have := World.ownsRow.lt h g rfl; exact this.2⟩, hnc, by simpa [maxLen] using hcm, fun i hi => ⟨?_, hs _ (List.getElem_mem hi)⟩⟩
    have := h.cells (g := g) rfl i (.string l[i]) (by simp [List.getElem?_eq_getElem hi])
    rwa [addr_add _ _ rfl] at this
theorem SRow.slice {w : World} {base : Nat} {v : Value} {l : List ByteArray} (h : SRow w base v l) : ∃ a cap, v = .slice a l.length cap := by
  rcases h.1.2 with ⟨rfl, hn⟩ | ⟨g, cap, cur, hv, _⟩
  · exact ⟨none, 0, by rw [hn]⟩
  · exact ⟨_, _, hv⟩
theorem SRow.slice3 {w : World} {base : Nat} {v : Value} {l : List ByteArray} (h : SRow w base v l) : ∃ a n cap, v = .slice a n cap := by
  obtain ⟨a, cap, e⟩ := h.slice; exact ⟨a, _, cap, e⟩
theorem SRow.nil (w : World) (base : Nat) : SRow w base (.slice none 0 0) [] := ⟨World.ownsRow_nil w base _ 1, by simp⟩
theorem SRow.made0 {w : World} {base : Nat} (hb : base ≤ w.heap.size) : SRow (w.alloc (.cells #[] 9)) base (.slice (some ⟨w.heap.size, 0, none⟩) 0 0) [] :=
  ⟨World.ownsRow_lit (w := w) #[] 0 hb (by simp [maxLen]) rfl, by simp⟩
theorem SRow.keep {w w' : World} {base : Nat} {v : Value} {l : List ByteArray} (h : SRow w base v l) (hk : ∀ x, v.ownBlock = some x → w'.heap[x]? = w.heap[x]?) : SRow w' base v l := by
  obtain ⟨⟨h1, h2⟩, hs⟩ := h
  refine ⟨⟨h1, ?_⟩, hs⟩
  rcases h2 with h2 | ⟨g, cap, cur, rfl, hbg, hg, r⟩
  · exact .inl h2
  · exact .inr ⟨g, cap, cur, rfl, hbg, by rw [hk g rfl]; exact hg, r⟩
theorem SRow.set {w : World} {base g n cap i : Nat} {l : List ByteArray} {s : ByteArray} (h : SRow w base (.slice (some ⟨g, 0, none⟩) n cap) l) (hs : s.size ≤ 9223372036854775807) :
    SRow (w.setCell ⟨g, i, none⟩ (.string s)) base (.slice (some ⟨g, 0, none⟩) n cap) (l.set i s) := by
  have hn : n = l.length := by
    rcases h.1.2 with ⟨h', _⟩ | ⟨g', cap', cur, h', _⟩ <;> simp at h'; exact h'.2.1
  subst hn
  refine ⟨?_, fun x hx => ?_⟩
  · have := (h.1.stored i (.string s)).1
    rw [List.length_set]
    rw [← List.map_set] at this
    exact this
  · rcases List.mem_or_eq_of_mem_set hx with h1 | h1
    · exact h.2 x h1
    · rw [h1]; exact hs
theorem SRow.cells {w : World} {base g n cap i : Nat} {l : List ByteArray} (h : SRow w base (.slice (some ⟨g, 0, none⟩) n cap) l) (hi : i < l.length) :
    w.cell? ⟨g, i, none⟩ = some (.string l[i]) ∧ w.frozen? ⟨g, i, none⟩ = false := by
  have hn : n = l.length := by
    rcases h.1.2 with ⟨h', _⟩ | ⟨g', cap', cur, h', _⟩ <;> simp at h'; exact h'.2.1
  subst hn
  refine ⟨?_, h.1.frozenAt i⟩
  have := h.1.cells (g := g) rfl i (.string l[i]) (by simp [List.getElem?_eq_getElem hi])
  rwa [addr_add _ _ rfl, Nat.zero_add] at this
theorem SRow.made {w : World} {base g n cap : Nat} (h : w.ownsRow base 9 1 (.slice (some ⟨g, 0, none⟩) n cap) n (madeCells #[.string ⟨#[]⟩] (n * 1)).toList) :
    SRow w base (.slice (some ⟨g, 0, none⟩) n cap) (List.replicate n ⟨#[]⟩) := by
  refine ⟨?_, fun s hs => ?_⟩
  · rw [toList_madeCells_one, Nat.mul_one] at h
    simpa using h
  · rw [(List.mem_replicate.1 hs).2]; simp [ByteArray.size]
def StrsRet (w : World) (l : List ByteArray) (e : Ending) (w' : World) : Prop := ∃ v, e = .returned v ∧ SRow w' w.heap.size v l ∧ Below w.heap.size w w'
section
variable {w : World} {ops : Array Oper} {rest : List Oper} {o : Oper} {a : Act} {Q : Exit → Act → World → Prop}
end
theorem open_Ss {H : Type} {enc : TypeId × Value → H} {w : World} {sp : Nat → Bool} {hd : Bool} {v : Value} {d : DataW H} {p : List MemPlace} (hv : ∃ a len cap, v = .slice a len cap)
    (h : DataW.Trod enc Tryd.prog w 0 sp hd 37 v d p) : ∃ l, RepSs w v l := by
  obtain ⟨fuel, hf⟩ := h
  obtain ⟨a0, len0, cap0, rfl⟩ := hv
  rcases open_strings Tryd.underlying37 Tryd.underlying9 (by kernel_rfl) hf with ⟨hc, _⟩ | ⟨a, len, cap, ss, hc, _, hlc, hcm, hsl, _, hcell, hss⟩
  · have hc : Value.slice a0 len0 cap0 = .slice none 0 0 := by simpa [Value.cells] using hc
    exact ⟨[], none, 0, 0, 0, hc, by simp, by simp, by omega, by simp⟩
  · have hc : Value.slice a0 len0 cap0 = .slice (some a) len cap := by simpa [Value.cells] using hc
    have hle : len ≤ ss.length := by rw [hsl]; split <;> omega
    have hs0 : 0 < len → a.spot = none ∧ a.block < w.heap.size := by
      intro h0
      have h1 := hcell 0 (by omega)
      have : a.add 0 = a := by unfold Addr.add; simp
      rw [this] at h1
      refine ⟨?_, World.block_lt_of_cell? w a h1⟩
      cases hq : a.spot with
      | none => rfl
      | some q => simp [World.cell?, hq] at h1; split at h1 <;> cases h1
    have hlen : (ss.take len).length = len := by rw [List.length_take]; omega
    refine ⟨ss.take len, some a, a.block, a.off, cap, by rw [hlen]; exact hc, ?_, by rw [hlen]; exact hlc, by simpa [maxLen] using hcm, ?_⟩
    · intro hne
      have h0 : 0 < len := by rcases Nat.eq_zero_or_pos len with e | e; (subst e; simp at hne); exact e
      obtain ⟨h1, h2⟩ := hs0 h0
      refine ⟨?_, h2⟩
      cases a; simp at h1; subst h1; rfl
    · intro i hi
      rw [hlen] at hi
      have h1 := hcell i (by omega)
      rw [addr_add _ _ (hs0 (by omega)).1] at h1
      have e : (ss.take len)[i]'(by rw [hlen]; exact hi) = ss.getD i ByteArray.empty := by
        rw [List.getElem_take, List.getD_eq_getElem?_getD, List.getElem?_eq_getElem (by omega)]; rfl
      rw [e]
      refine ⟨h1, ?_⟩
      rw [← e]
      have := hss _ (List.mem_of_mem_take (List.getElem_mem (by rw [hlen]; exact hi)))
      simpa [maxLen] using this
end Go.Proofs.YtaphlemmlmdkiaaDoor
namespace Go.Proofs.YtaphlemmlmdkiaaDoor
set_option linter.unusedSimpArgs false
set_option linter.unusedVariables false
set_option maxRecDepth 100000
open Go.RowKit
theorem grownBy_refl (w : World) (r : Option Nat) : w.grownBy w r := ⟨rfl, rfl, rfl, Nat.le_refl _, fun _ _ _ => rfl⟩
theorem grownBy_below {a b : World} {r : Option Nat} (h : Below a.heap.size a b) : a.grownBy b r := ⟨h.os, h.tape, h.output, h.size, fun i hi _ => h.block i hi⟩
def mtL (n : Nat) : List UInt8 := if h : n = 0 then [] else mtL (n / 10) ++ [UInt8.ofNat (48 + n % 10)]
termination_by n
theorem mtL_zero : mtL 0 = [] := by rw [mtL]; rfl
theorem mtL_pos {n : Nat} (h : ¬ n = 0) : mtL n = mtL (n / 10) ++ [UInt8.ofNat (48 + n % 10)] := by rw [mtL, dif_neg h]
theorem mtL_length (n : Nat) : (mtL n).length ≤ n := by
  induction n using Nat.strongRecOn with
  | ind n ih =>
    by_cases h : n = 0
    · subst h; simp [mtL_zero]
    · rw [mtL_pos h, List.length_append]
      have := ih (n / 10) (by omega)
      simp; omega
theorem bstr_cat (l m : List UInt8) : (⟨l.toArray⟩ : ByteArray) ++ ⟨m.toArray⟩ = ⟨(l ++ m).toArray⟩ := by
  simp [ByteArray.ext_iff]
def mt (k : Int) : ByteArray := if k ≤ 0 then ⟨#[109, 48]⟩ else ⟨(109 :: mtL k.toNat).toArray⟩
theorem mt_size (k : Int) (h : k ≤ 4611686018427387904) : (mt k).size ≤ 9223372036854775807 := by
  unfold mt
  split
  · decide
  · have := mtL_length k.toNat
    simp only [ByteArray.size, List.size_toArray, List.length_cons]; omega
set_option maxHeartbeats 400000 in
theorem markText_any (k : Int) (w : World) (h : k ≤ 4611686018427387904) : Calls Tryd.prog 30 #[.int .i64 k] w fun e w' => e = .returned (.string (mt k)) ∧ Below w.heap.size w w' := by
  by_cases h0 : k ≤ 0
  · have H := Lib.hid (show mt k = ⟨#[109, 48]⟩ by rw [mt, if_pos h0])
    go_enter Tryd.func30, Tryd.ntmps30
    go_wp2_with fail
    go_ret
    exact ⟨by rw [H.out]; rfl, Below.refl _ _⟩
  · have H := Lib.hid (show mt k = ⟨(109 :: mtL k.toNat).toArray⟩ by rw [mt, if_neg h0])
    go_enter Tryd.func30, Tryd.ntmps30
    go_wp2_with fail
    go_loopw [0, 3] (fun x s wr => ∃ (q : Int) (L : List UInt8), 0 ≤ q ∧ q ≤ k ∧ x = .int .i64 q ∧ s = bstr L ∧ (L.length : Int) + q ≤ k ∧ Hid (mtL k.toNat = mtL q.toNat ++ L) ∧ Below w.heap.size w wr) (fun x _ _ => (intOf x).toNat)
    case atStart => exact ⟨k, [], by omega, by omega, rfl, rfl, by simp, Lib.hid (by simp), Below.refl _ _⟩
    case round =>
      obtain ⟨q, L, hq, hqk, rfl, rfl, hl, HM, hb⟩ := hrel
      by_cases hlt : 0 < q
      · have HS := Lib.hid (mtL_pos (n := q.toNat) (by omega))
        have hc := fun (W : World) (b : Nat) => run_str1 W b (48 + q.tmod 10)
        have hm : q.tmod 10 = q % 10 := Int.tmod_eq_emod_of_nonneg hq
        have hd : q.tdiv 10 = q / 10 := Int.tdiv_eq_ediv_of_nonneg hq
        rw [hm] at hc
        go_wp2_with fail
        go_roundw
        case rel => 
          refine ⟨q / 10, UInt8.ofNat (48 + q.toNat % 10) :: L, by omega, by omega, by first | rfl | rw [hd], ?_, ?_, Lib.hid ?_, (by (repeat' (first | with_reducible exact Below.refl _ _ | with_reducible refine below_alloc ?_ _ ?_ | with_reducible refine Below.setCell ?_ ?_ _ | with_reducible refine Below.drew ?_ | with_reducible refine Go.below_drewN ?_ _ | with_reducible refine below_step ?_ (by assumption) ?_ | with_reducible refine below_mark ?_ (by assumption) ?_)); all_goals (first | omega | (simp; done) | (simp; omega)))⟩
          · rw [show (48 + q % 10).toNat = 48 + q.toNat % 10 by omega]; exact congrArg Value.string (bstr_cat _ _)
          · simp; omega
          · rw [HM.out, HS.out, show (q / 10).toNat = q.toNat / 10 by omega]; simp
        case measure => simp [intOf]; omega
      · have hq0 : q = 0 := by omega
        subst hq0
        go_wp2_with fail
        go_ret
        refine ⟨?_, hb⟩
        rw [H.out, HM.out, Int.toNat_zero, mtL_zero]
        exact congrArg (fun s => Ending.returned (.string s)) (bstr_cat [109] L).symm
def mkL (k : Int) (j : Nat) : List ByteArray := (List.range j).map fun (i : Nat) => mt (k + (i : Int))
theorem mkL_length (k : Int) (j : Nat) : (mkL k j).length = j := by simp [mkL]
theorem mkL_set (k : Int) (l : List ByteArray) (j : Nat) (h : j < l.length) : (mkL k j ++ l.drop j).set j (mt (k + j)) = mkL k (j + 1) ++ l.drop (j + 1) := by
  have hl := mkL_length k j
  rw [List.set_append, if_neg (by omega), hl, Nat.sub_self, List.drop_eq_getElem_cons h, List.set_cons_zero]
  simp [mkL, List.range_succ]
theorem SRow.form {w : World} {base : Nat} {v : Value} {l : List ByteArray} (h : SRow w base v l) : ∃ a cap, v = .slice a l.length cap ∧ l.length ≤ cap ∧ cap ≤ 9223372036854775807 ∧ (l ≠ [] → ∃ g, a = some ⟨g, 0, none⟩ ∧ base ≤ g) := by
  rcases h.1.2 with ⟨rfl, hn⟩ | ⟨g, cap, cur, hv, hb, hg, hnc, hcm, _⟩
  · exact ⟨none, 0, by rw [hn], by omega, by omega, fun e => absurd (List.eq_nil_of_length_eq_zero hn) e⟩
  · exact ⟨_, _, hv, hnc, by simpa [maxLen] using hcm, fun _ => ⟨g, rfl, hb⟩⟩
set_option maxHeartbeats 400000 in
theorem markStringS_any (B : Nat) (v : Value) (l : List ByteArray) (k : Int) (w : World) (hrow : SRow w B v l) (hl : l.length ≤ 1099511627776) (hk0 : 0 ≤ k) (hk : k ≤ 1152921504606846976) :
    Calls Tryd.prog 19 #[v, .int .i64 k] w fun e w' => e = .returned (.int .i64 (k + l.length)) ∧ SRow w' B v (mkL k l.length) ∧ w.grownBy w' v.ownBlock := by
  obtain ⟨a, cap, rfl, hlc, hcm, ha⟩ := hrow.form
  have HA := Lib.hid ha; have HROW := Lib.hid hrow
  clear ha hrow
  go_enter Tryd.func19, Tryd.ntmps19
  go_wp2_with fail
  go_loopw [1, 5] (fun x i wr => ∃ j : Nat, j ≤ l.length ∧ i = .int .i64 j ∧ x = .int .i64 (k + j) ∧ SRow wr B (.slice a l.length cap) (mkL k j ++ l.drop j) ∧ w.grownBy wr (Value.ownBlock (.slice a l.length cap))) (fun _ i _ => l.length - (intOf i).toNat)
  case atStart => exact ⟨0, by omega, rfl, by simp, by simpa [mkL] using HROW.out, grownBy_refl _ _⟩
  case round =>
    obtain ⟨j, hj, rfl, rfl, hrow, hg⟩ := hrel
    have HR := Lib.hid hrow; have HG := Lib.hid hg
    clear hrow hg
    by_cases hlt : j < l.length
    · have hne : l ≠ [] := by intro e; rw [e] at hlt; simp at hlt
      obtain ⟨g, rfl, hBg⟩ := HA.out hne
      have MT := Lib.hid (fun W => markText_any (k + j) W (by omega))
      have HS := Lib.hid (mkL_set k l j hlt)
      have hms := mt_size (k + j) (by omega)
      generalize mt (k + j) = s at *
      go_wp2_with fail
      refine (MT.out _).mono ?_
      rintro e1 w1 ⟨rfl, hb1⟩
      have R1 := Lib.hid (show SRow w1 B (.slice (some ⟨g, 0, none⟩) l.length cap) (mkL k j ++ l.drop j) from HR.out.keep (fun x hx => hb1.block x (HR.out.lt x hx).2))
      obtain ⟨c1, c2⟩ := R1.out.cells (i := j) (by rw [List.length_append, mkL_length, List.length_drop]; omega)
      have R2 := Lib.hid (SRow.set (i := j) R1.out hms)
      go_wp2_with fail
      go_roundw
      case rel => exact ⟨j + 1, by omega, by go_num, by go_num, by rw [← HS.out]; exact R2.out, grownBy_trans (grownBy_trans HG.out (grownBy_below hb1)) (grownBy_cell _ _ _ _)⟩
      case measure => simp [intOf]; omega
    · have hj' : j = l.length := by omega
      subst hj'
      go_wp2_with fail
      go_ret
      exact ⟨rfl, by simpa using HR.out, HG.out⟩
set_option maxHeartbeats 400000 in
theorem eqStringS_any (w0 : World) (v u : Value) (l : List ByteArray) (h : RepSs w0 v l) (h2 : RepSs w0 u l) (w : World) (hw : Below w0.heap.size w0 w) :
    Calls Tryd.prog 18 #[v, u] w fun e w' => e = .returned (.bool true) ∧ Below w.heap.size w w' := by
  obtain ⟨a, b, off, cap, rfl, ha, hc, hm, hcell⟩ := h
  obtain ⟨a2, b2, off2, cap2, rfl, ha2, hc2, hm2, hcell2⟩ := h2
  have HA := Lib.hid ha; have HC := Lib.hid hcell; have HA2 := Lib.hid ha2; have HC2 := Lib.hid hcell2
  clear ha hcell ha2 hcell2
  go_enter Tryd.func18, Tryd.ntmps18
  go_wp2_with fail
  go_loopw [5] (fun i wr => ∃ k : Nat, k ≤ l.length ∧ i = .int .i64 k ∧ Below w.heap.size w wr) (fun i _ => l.length - (intOf i).toNat)
  case atStart => exact ⟨0, by omega, rfl, Below.refl _ _⟩
  case round =>
    obtain ⟨k, hk, rfl, hbl⟩ := hrel
    by_cases hlt : k < l.length
    · have hne : l ≠ [] := by intro e; rw [e] at hlt; simp at hlt
      obtain ⟨rfl, hbw⟩ := HA.out hne
      obtain ⟨rfl, hbw2⟩ := HA2.out hne
      have hx : ∀ b, b < w0.heap.size → wr.heap[b]? = w0.heap[b]? := fun b hb => (hbl.block b (Nat.lt_of_lt_of_le hb hw.size)).trans (hw.block b hb)
      have hcell : wr.cell? ⟨b, off + k, none⟩ = some (.string l[k]) := by rw [World.cell?_of_block (a := ⟨b, off + k, none⟩) (hx b hbw)]; exact (HC.out k hlt).1
      have hcell2 : wr.cell? ⟨b2, off2 + k, none⟩ = some (.string l[k]) := by rw [World.cell?_of_block (a := ⟨b2, off2 + k, none⟩) (hx b2 hbw2)]; exact (HC2.out k hlt).1
      clear hx
      generalize l[k] = s at *
      have t1 := ba_yes (rfl : s = s)
      go_wp2_with fail
      go_quiet (fail)
      all_goals go_wp2_with fail
      all_goals go_roundw
      case rel => exact ⟨k + 1, by omega, by go_num, (by (repeat' (first | with_reducible exact Below.refl _ _ | with_reducible refine below_alloc ?_ _ ?_ | with_reducible refine Below.setCell ?_ ?_ _ | with_reducible refine Below.drew ?_ | with_reducible refine Go.below_drewN ?_ _ | with_reducible refine below_step ?_ (by assumption) ?_ | with_reducible refine below_mark ?_ (by assumption) ?_)); all_goals (first | omega | (simp; done) | (simp; omega)))⟩
      case measure => simp [intOf]; omega
    · go_wp2_with fail
      go_ret
      exact ⟨rfl, hbl⟩
end Go.Proofs.YtaphlemmlmdkiaaDoor
namespace Go.Proofs.YtaphlemmlmdkiaaDoor
set_option linter.unusedSimpArgs false
set_option linter.unusedVariables false
set_option maxRecDepth 100000
def stepOk (s : ByteArray) : Bool := decide (s.size ≤ 2000) && txt s
def stepsOk (l : List ByteArray) : Bool := decide (l.length ≤ 12) && l.all stepOk
theorem stepsOk_iff {l : List ByteArray} : stepsOk l = true ↔ l.length ≤ 12 ∧ ∀ s ∈ l, s.size ≤ 2000 ∧ txt s = true := by
  unfold stepsOk stepOk
  simp only [Bool.and_eq_true, decide_eq_true_eq, List.all_eq_true]
theorem dec_mtL {n : Nat} (h : ¬ n = 0) : Lib.decDigits n = mtL n := by
  induction n using Nat.strongRecOn with
  | _ n ih =>
    rw [mtL_pos h]
    by_cases h10 : n < 10
    · rw [Lib.decDigits_one h10, show n / 10 = 0 by omega, mtL_zero, show n % 10 = n by omega]; rfl
    · rw [Lib.decDigits, dif_neg h10, ih (n / 10) (by omega) (by omega)]
end Go.Proofs.YtaphlemmlmdkiaaDoor
namespace Go.Proofs.YtaphlemmlmdkiaaDoor
set_option linter.unusedSimpArgs false
set_option linter.unusedVariables false
set_option maxRecDepth 100000
open Go.RowKit
def Env (w : World) : Prop := Lib.Utf8Tabs (Tryd.laysValid_ren.g 3) (Tryd.laysValid_ren.g 4) w
theorem Env.keep {w w' : World} (h : Env w) (hb : Below w.heap.size w w') : Env w' := by
  obtain ⟨h1, h2⟩ := h
  refine ⟨fun c hc => ?_, fun i hi => ⟨?_, ?_⟩⟩
  · have := h1 c hc
    rw [hb.cell (World.block_lt_of_cell? w _ this)]; exact this
  · have := (h2 i hi).1
    rw [hb.cell (World.block_lt_of_cell? w _ this)]; exact this
  · have := (h2 i hi).2
    rw [hb.cell (World.block_lt_of_cell? w _ this)]; exact this
theorem validString_any (s : ByteArray) (w : World) (hs : s.size ≤ 9223372036854775807) (hE : Env w) : Calls Tryd.prog 82 #[.string s] w fun e w' => e = .returned (.bool (txt s)) ∧ Below w.heap.size w w' :=
  Any.utf8_ValidString Tryd.laysValid s w hs hE
set_option maxHeartbeats 400000 in
theorem textOk_impl (s : ByteArray) (w : World) (hs : s.size ≤ 9223372036854775807) (hE : Env w) : Calls Tryd.prog 57 #[.string s] w fun e w' => e = .returned (.bool (txt s)) ∧ Below w.heap.size w w' := by
  have V := Lib.hid (validString_any s w hs hE)
  clear hE
  go_enter Tryd.func57, Tryd.ntmps57
  go_wp2_with fail
  refine V.out.mono ?_
  rintro e w1 ⟨rfl, hb⟩
  go_wp2_with fail
  go_ret
  exact ⟨rfl, hb⟩
end Go.Proofs.YtaphlemmlmdkiaaDoor
namespace Go.Proofs.YtaphlemmlmdkiaaDoor
set_option linter.unusedSimpArgs false
set_option linter.unusedVariables false
set_option maxRecDepth 100000
open Go.Lib
def isSg (n : Int) : Prop := 0 ≤ n ∧ n ≤ 1114111 ∧ ¬ (55296 ≤ n ∧ n ≤ 57343)
instance (n : Int) : Decidable (isSg n) := by unfold isSg; exact inferInstance
def putS (n : Int) : List UInt8 := if isSg n then encodeRune n else []
def manyOf (b : Nat) : Nat := if b < 128 then 1 else if b < 192 then 0 else if b < 224 then 2 else if b < 240 then 3 else if b < 248 then 4 else 0
def headOf (b : Nat) : Nat := if b < 128 then b else if b < 192 then 0 else if b < 224 then b % 32 else if b < 240 then b % 16 else if b < 248 then b % 8 else 0
def accV (n0 : Nat) (l : List UInt8) : Nat → Nat
  | 0 => n0
  | k + 1 => accV n0 l k * 64 + (l.getD (k + 1) 0).toNat % 64
theorem accV_lt (n0 : Nat) (l : List UInt8) (h : n0 < 128) : ∀ k, k ≤ 4 → accV n0 l k < 128 * 64 ^ k
  | 0, _ => by simpa [accV] using h
  | k + 1, hk => by
    have := accV_lt n0 l h k (by omega)
    have h2 := Nat.mod_lt (l.getD (k + 1) 0).toNat (show 64 > 0 by decide)
    simp only [accV, Nat.pow_succ]; omega
theorem headOf_lt (b : Nat) : headOf b < 128 := by unfold headOf; repeat' split
                                                   all_goals omega
theorem manyOf_le (b : Nat) : manyOf b ≤ 4 := by unfold manyOf; repeat' split
                                                 all_goals omega
theorem putS_1 {n : Nat} (h : n < 128) : putS n = [n.toUInt8] := by
  unfold putS
  rw [if_pos (by unfold isSg; omega)]
  unfold encodeRune
  rw [encodeRuneZ_one (by omega) (by omega)]
  simp
theorem u8_inj {a : Nat} (h : a < 256) {x : UInt8} : a.toUInt8 = x ↔ a = x.toNat := by
  constructor
  · intro e; subst e; simp; omega
  · intro e; subst e; simp
theorem putS_2 {n : Nat} (h : n < 2048) (h0 : 128 ≤ n) : putS n = [(192 + n / 64).toUInt8, (128 + n % 64).toUInt8] := by
  unfold putS
  rw [if_pos (by unfold isSg; omega)]
  unfold encodeRune
  rw [encodeRuneZ_two (by omega) (by omega)]
  simp only [List.map_cons, List.map_nil]
  rw [show ((192 + (n : Int) / 64).toNat) = 192 + n / 64 by omega, show ((128 + (n : Int) % 64).toNat) = 128 + n % 64 by omega]
theorem putS_3 {n : Nat} (h : n < 65536) (h0 : 2048 ≤ n) (hs : ¬ (55296 ≤ n ∧ n ≤ 57343)) : putS n = [(224 + n / 4096).toUInt8, (128 + n / 64 % 64).toUInt8, (128 + n % 64).toUInt8] := by
  unfold putS
  rw [if_pos (by unfold isSg; omega)]
  unfold encodeRune
  rw [encodeRuneZ_three (by omega)]
  simp only [List.map_cons, List.map_nil]
  rw [show ((224 + (n : Int) / 4096).toNat) = 224 + n / 4096 by omega, show ((128 + (n : Int) / 64 % 64).toNat) = 128 + n / 64 % 64 by omega, show ((128 + (n : Int) % 64).toNat) = 128 + n % 64 by omega]
theorem putS_4 {n : Nat} (h : n ≤ 1114111) (h0 : 65536 ≤ n) : putS n = [(240 + n / 262144).toUInt8, (128 + n / 4096 % 64).toUInt8, (128 + n / 64 % 64).toUInt8, (128 + n % 64).toUInt8] := by
  unfold putS
  rw [if_pos (by unfold isSg; omega)]
  unfold encodeRune
  rw [encodeRuneZ_four (by omega) (by omega)]
  simp only [List.map_cons, List.map_nil]
  rw [show ((240 + (n : Int) / 262144).toNat) = 240 + n / 262144 by omega, show ((128 + (n : Int) / 4096 % 64).toNat) = 128 + n / 4096 % 64 by omega, show ((128 + (n : Int) / 64 % 64).toNat) = 128 + n / 64 % 64 by omega, show ((128 + (n : Int) % 64).toNat) = 128 + n % 64 by omega]
theorem putS_no {n : Int} (h : ¬ isSg n) : putS n = [] := by unfold putS; rw [if_neg h]
theorem take1 (l : List UInt8) (h : 1 ≤ l.length) : l.take 1 = [l.getD 0 0] := by
  match l, h with
  | a :: l, _ => simp
theorem take2 (l : List UInt8) (h : 2 ≤ l.length) : l.take 2 = [l.getD 0 0, l.getD 1 0] := by
  match l, h with
  | a :: b :: l, _ => simp
theorem take3 (l : List UInt8) (h : 3 ≤ l.length) : l.take 3 = [l.getD 0 0, l.getD 1 0, l.getD 2 0] := by
  match l, h with
  | a :: b :: c :: l, _ => simp
theorem take4 (l : List UInt8) (h : 4 ≤ l.length) : l.take 4 = [l.getD 0 0, l.getD 1 0, l.getD 2 0, l.getD 3 0] := by
  match l, h with
  | a :: b :: c :: d :: l, _ => simp
def badD (l : List UInt8) : Prop := (decodeL l).1 = 65533 ∧ (decodeL l).2 = 1
instance (l : List UInt8) : Decidable (badD l) := by unfold badD; exact inferInstance
set_option maxRecDepth 100000 in
set_option maxHeartbeats 4000000 in
theorem get_none (l : List UInt8) (hne : 1 ≤ l.length) (h : manyOf (l.getD 0 0).toNat = 0 ∨ l.length < manyOf (l.getD 0 0).toNat) : badD l := by
  unfold badD
  rw [decodeL_N]
  have k0 := (l.getD 0 0).toNat_lt
  generalize (l.getD 0 0).toNat = b0 at *
  unfold manyOf at h
  unfold decodeN
  repeat' split
  all_goals first | exact ⟨rfl, rfl⟩ | (exfalso; split at h <;> (try split at h) <;> (try split at h) <;> (try split at h) <;> (try split at h) <;> omega)
set_option maxRecDepth 100000 in
set_option maxHeartbeats 4000000 in
theorem get_some (l : List UInt8) (h0 : manyOf (l.getD 0 0).toNat ≠ 0) (h1 : manyOf (l.getD 0 0).toNat ≤ l.length) :
    (¬ badD l ↔ putS (accV (headOf (l.getD 0 0).toNat) l (manyOf (l.getD 0 0).toNat - 1) : Nat) = l.take (manyOf (l.getD 0 0).toNat)) ∧
    (¬ badD l → decodeL l = (accV (headOf (l.getD 0 0).toNat) l (manyOf (l.getD 0 0).toNat - 1), manyOf (l.getD 0 0).toNat)) := by
  unfold badD
  rw [decodeL_N]
  have k0 := (l.getD 0 0).toNat_lt
  have k1 := (l.getD 1 0).toNat_lt
  have k2 := (l.getD 2 0).toNat_lt
  have k3 := (l.getD 3 0).toNat_lt
  by_cases c0 : (l.getD 0 0).toNat < 128
  · have hm : manyOf (l.getD 0 0).toNat = 1 := by unfold manyOf; rw [if_pos c0]
    have hh : headOf (l.getD 0 0).toNat = (l.getD 0 0).toNat := by unfold headOf; rw [if_pos c0]
    rw [hm] at h1 ⊢
    rw [hh]
    simp only [accV, Nat.sub_self]
    rw [putS_1 c0, take1 l h1]
    have hd : decodeN l.length (l.getD 0 0).toNat (l.getD 1 0).toNat (l.getD 2 0).toNat (l.getD 3 0).toNat = ((l.getD 0 0).toNat, 1) := by unfold decodeN; rw [if_pos c0]
    rw [hd]
    refine ⟨⟨fun _ => by simp, fun _ h => ?_⟩, fun _ => rfl⟩
    have h1 : (l.getD 0 0).toNat = 65533 := h.1
    omega
  by_cases c1 : (l.getD 0 0).toNat < 192
  · exfalso; apply h0; unfold manyOf; rw [if_neg c0, if_pos c1]
  by_cases c2 : (l.getD 0 0).toNat < 224
  · have hm : manyOf (l.getD 0 0).toNat = 2 := by unfold manyOf; rw [if_neg c0, if_neg c1, if_pos c2]
    have hh : headOf (l.getD 0 0).toNat = (l.getD 0 0).toNat % 32 := by unfold headOf; rw [if_neg c0, if_neg c1, if_pos c2]
    rw [hm] at h1 ⊢
    rw [hh]
    simp only [accV]
    rw [take2 l h1]
    have hd : decodeN l.length (l.getD 0 0).toNat (l.getD 1 0).toNat (l.getD 2 0).toNat (l.getD 3 0).toNat = if (l.getD 1 0).toNat / 64 = 2 ∧ 128 ≤ (l.getD 0 0).toNat % 32 * 64 + (l.getD 1 0).toNat % 64 then ((l.getD 0 0).toNat % 32 * 64 + (l.getD 1 0).toNat % 64, 2) else (65533, 1) := by
      unfold decodeN; rw [if_neg c0]
      by_cases q : (l.getD 1 0).toNat / 64 = 2
      · rw [if_pos ⟨by omega, by omega, q⟩]; simp only [q, true_and, ge_iff_le]
      · rw [if_neg (by omega), if_neg (by omega), if_neg (by omega), if_neg (by omega)]
    rw [hd]
    generalize hb0 : l.getD 0 0 = x0 at *
    generalize hb1 : l.getD 1 0 = x1 at *
    by_cases q : x1.toNat / 64 = 2 ∧ 128 ≤ x0.toNat % 32 * 64 + x1.toNat % 64
    · rw [if_pos q, putS_2 (by omega) q.2]
      refine ⟨⟨fun _ => ?_, fun _ => by simp⟩, fun _ => rfl⟩
      simp only [List.cons.injEq, and_true]
      rw [u8_inj (by omega), u8_inj (by omega)]; omega
    · rw [if_neg q]
      refine ⟨⟨fun h => absurd ⟨rfl, rfl⟩ h, fun h => ?_⟩, fun h => absurd ⟨rfl, rfl⟩ h⟩
      exfalso
      by_cases q2 : 128 ≤ x0.toNat % 32 * 64 + x1.toNat % 64
      · rw [putS_2 (by omega) q2] at h
        simp only [List.cons.injEq, and_true] at h
        rw [u8_inj (by omega), u8_inj (by omega)] at h
        omega
      · rw [putS_1 (by omega)] at h; simp at h
  by_cases c3 : (l.getD 0 0).toNat < 240
  · have hm : manyOf (l.getD 0 0).toNat = 3 := by unfold manyOf; rw [if_neg c0, if_neg c1, if_neg c2, if_pos c3]
    have hh : headOf (l.getD 0 0).toNat = (l.getD 0 0).toNat % 16 := by unfold headOf; rw [if_neg c0, if_neg c1, if_neg c2, if_pos c3]
    rw [hm] at h1 ⊢
    rw [hh]
    simp only [accV]
    rw [take3 l h1]
    generalize hb0 : l.getD 0 0 = x0 at *
    generalize hb1 : l.getD 1 0 = x1 at *
    generalize hb2 : l.getD 2 0 = x2 at *
    have hn : (x0.toNat % 16 * 64 + x1.toNat % 64) * 64 + x2.toNat % 64 = x0.toNat % 16 * 4096 + x1.toNat % 64 * 64 + x2.toNat % 64 := by omega
    rw [show ∀ a b : Nat, (a * 64 + b) = (a * 64 + b) from fun _ _ => rfl, hn]
    generalize hN : x0.toNat % 16 * 4096 + x1.toNat % 64 * 64 + x2.toNat % 64 = N at *
    have hd : decodeN l.length x0.toNat x1.toNat x2.toNat (l.getD 3 0).toNat = if x1.toNat / 64 = 2 ∧ x2.toNat / 64 = 2 ∧ 2048 ≤ N ∧ (N < 55296 ∨ (57344 ≤ N ∧ N ≤ 1114111)) then (N, 3) else (65533, 1) := by
      unfold decodeN; rw [if_neg c0, if_neg (by omega)]
      by_cases q : x1.toNat / 64 = 2 ∧ x2.toNat / 64 = 2
      · rw [if_pos ⟨by omega, ⟨by omega, q.1⟩, by omega, q.2⟩, hN]; simp only [q.1, q.2, true_and, ge_iff_le]
      · rw [if_neg (by omega), if_neg (by omega), if_neg (by omega)]
    rw [hd]
    by_cases q : x1.toNat / 64 = 2 ∧ x2.toNat / 64 = 2 ∧ 2048 ≤ N ∧ (N < 55296 ∨ (57344 ≤ N ∧ N ≤ 1114111))
    · rw [if_pos q, putS_3 (by omega) q.2.2.1 (by omega)]
      refine ⟨⟨fun _ => ?_, fun _ => by simp⟩, fun _ => rfl⟩
      simp only [List.cons.injEq, and_true]
      rw [u8_inj (by omega), u8_inj (by omega), u8_inj (by omega)]; omega
    · rw [if_neg q]
      refine ⟨⟨fun h => absurd ⟨rfl, rfl⟩ h, fun h => ?_⟩, fun h => absurd ⟨rfl, rfl⟩ h⟩
      exfalso
      by_cases q1 : N < 128
      · rw [putS_1 q1] at h; simp at h
      by_cases q2 : N < 2048
      · rw [putS_2 q2 (by omega)] at h; simp at h
      by_cases q3 : 55296 ≤ N ∧ N ≤ 57343
      · rw [putS_no (by unfold isSg; omega)] at h; simp at h
      · rw [putS_3 (by omega) (by omega) (by omega)] at h
        simp only [List.cons.injEq, and_true] at h
        rw [u8_inj (by omega), u8_inj (by omega), u8_inj (by omega)] at h
        omega
  by_cases c4 : (l.getD 0 0).toNat < 248
  · have hm : manyOf (l.getD 0 0).toNat = 4 := by unfold manyOf; rw [if_neg c0, if_neg c1, if_neg c2, if_neg c3, if_pos c4]
    have hh : headOf (l.getD 0 0).toNat = (l.getD 0 0).toNat % 8 := by unfold headOf; rw [if_neg c0, if_neg c1, if_neg c2, if_neg c3, if_pos c4]
    rw [hm] at h1 ⊢
    rw [hh]
    simp only [accV]
    rw [take4 l h1]
    generalize hb0 : l.getD 0 0 = x0 at *
    generalize hb1 : l.getD 1 0 = x1 at *
    generalize hb2 : l.getD 2 0 = x2 at *
    generalize hb3 : l.getD 3 0 = x3 at *
    have hn : ((x0.toNat % 8 * 64 + x1.toNat % 64) * 64 + x2.toNat % 64) * 64 + x3.toNat % 64 = x0.toNat % 8 * 262144 + x1.toNat % 64 * 4096 + x2.toNat % 64 * 64 + x3.toNat % 64 := by omega
    rw [show ∀ a b : Nat, (a * 64 + b) = (a * 64 + b) from fun _ _ => rfl, hn]
    generalize hN : x0.toNat % 8 * 262144 + x1.toNat % 64 * 4096 + x2.toNat % 64 * 64 + x3.toNat % 64 = N at *
    have hd : decodeN l.length x0.toNat x1.toNat x2.toNat x3.toNat = if x1.toNat / 64 = 2 ∧ x2.toNat / 64 = 2 ∧ x3.toNat / 64 = 2 ∧ 65536 ≤ N ∧ N ≤ 1114111 then (N, 4) else (65533, 1) := by
      unfold decodeN; rw [if_neg c0, if_neg (by omega), if_neg (by omega)]
      by_cases q : x1.toNat / 64 = 2 ∧ x2.toNat / 64 = 2 ∧ x3.toNat / 64 = 2
      · rw [if_pos ⟨by omega, ⟨by omega, q.1⟩, ⟨by omega, q.2.1⟩, by omega, q.2.2⟩, hN]
        by_cases q5 : 65536 ≤ N ∧ N ≤ 1114111
        · rw [if_pos (by omega), if_pos ⟨q.1, q.2.1, q.2.2, q5⟩]
        · rw [if_neg (by omega), if_neg (fun h => q5 h.2.2.2)]
      · rw [if_neg (by omega), if_neg (by omega)]
    rw [hd]
    by_cases q : x1.toNat / 64 = 2 ∧ x2.toNat / 64 = 2 ∧ x3.toNat / 64 = 2 ∧ 65536 ≤ N ∧ N ≤ 1114111
    · rw [if_pos q, putS_4 (by omega) q.2.2.2.1]
      refine ⟨⟨fun _ => ?_, fun _ => by simp⟩, fun _ => rfl⟩
      simp only [List.cons.injEq, and_true]
      rw [u8_inj (by omega), u8_inj (by omega), u8_inj (by omega), u8_inj (by omega)]; omega
    · rw [if_neg q]
      refine ⟨⟨fun h => absurd ⟨rfl, rfl⟩ h, fun h => ?_⟩, fun h => absurd ⟨rfl, rfl⟩ h⟩
      exfalso
      by_cases q1 : N < 128
      · rw [putS_1 q1] at h; simp at h
      by_cases q2 : N < 2048
      · rw [putS_2 q2 (by omega)] at h; simp at h
      by_cases q3 : 55296 ≤ N ∧ N ≤ 57343
      · rw [putS_no (by unfold isSg; omega)] at h; simp at h
      by_cases q4 : N < 65536
      · rw [putS_3 (by omega) (by omega) (by omega)] at h; simp at h
      by_cases q5 : N ≤ 1114111
      · rw [putS_4 q5 (by omega)] at h
        simp only [List.cons.injEq, and_true] at h
        rw [u8_inj (by omega), u8_inj (by omega), u8_inj (by omega), u8_inj (by omega)] at h
        omega
      · rw [putS_no (by unfold isSg; omega)] at h; simp at h
  · exfalso; apply h0; unfold manyOf; rw [if_neg c0, if_neg c1, if_neg c2, if_neg c3, if_neg c4]
end Go.Proofs.YtaphlemmlmdkiaaDoor
namespace Go.Proofs.YtaphlemmlmdkiaaDoor
set_option linter.unusedSimpArgs false
set_option linter.unusedVariables false
set_option maxRecDepth 100000
open Go.RowKit
theorem l01In_yes (n lo hi : Int) (w : World) (h1 : lo ≤ n) (h2 : n ≤ hi) :
    Calls Tryd.prog 84 #[.int .i64 n, .int .i64 lo, .int .i64 hi] w fun e w' => e = .returned (.bool true) ∧ w' = w := by
  go_enter Tryd.func84, Tryd.ntmps84
  go_wp2
  go_ret
  exact ⟨rfl, rfl⟩
theorem l01In_no (n lo hi : Int) (w : World) (h : n < lo ∨ hi < n) :
    Calls Tryd.prog 84 #[.int .i64 n, .int .i64 lo, .int .i64 hi] w fun e w' => e = .returned (.bool false) ∧ w' = w := by
  by_cases h1 : lo ≤ n
  · have h2 : ¬ n ≤ hi := by omega
    clear h
    go_enter Tryd.func84, Tryd.ntmps84
    go_wp2
    go_ret
    exact ⟨rfl, rfl⟩
  · clear h
    go_enter Tryd.func84, Tryd.ntmps84
    go_wp2
    go_ret
    exact ⟨rfl, rfl⟩
theorem within_yes (n lo hi : Int) (w : World) (h1 : lo ≤ n) (h2 : n ≤ hi) :
    Calls Tryd.prog 91 #[.int .i64 n, .int .i64 lo, .int .i64 hi] w fun e w' => e = .returned (.bool true) ∧ w' = w := by
  go_enter Tryd.func91, Tryd.ntmps91
  go_wp2
  go_ret
  exact ⟨rfl, rfl⟩
theorem within_no (n lo hi : Int) (w : World) (h : n < lo ∨ hi < n) :
    Calls Tryd.prog 91 #[.int .i64 n, .int .i64 lo, .int .i64 hi] w fun e w' => e = .returned (.bool false) ∧ w' = w := by
  by_cases h1 : lo ≤ n
  · have h2 : ¬ n ≤ hi := by omega
    clear h
    go_enter Tryd.func91, Tryd.ntmps91
    go_wp2
    go_ret
    exact ⟨rfl, rfl⟩
  · clear h
    go_enter Tryd.func91, Tryd.ntmps91
    go_wp2
    go_ret
    exact ⟨rfl, rfl⟩
end Go.Proofs.YtaphlemmlmdkiaaDoor
namespace Go.Proofs.YtaphlemmlmdkiaaDoor
set_option linter.unusedSimpArgs false
set_option linter.unusedVariables false
set_option maxRecDepth 100000
open Go.RowKit
theorem info_int : (Tryd.prog.info? 3).map (fun i => (i.zero, i.size, i.bytes)) = some (some (.int .i64 0), 1, 8) := by kernel_rfl
def IRow (w : World) (base : Nat) (v : Value) (l : List Int) : Prop := w.ownsRow base 3 1 v l.length (l.map (.int .i64))
theorem IRow.lt {w : World} {base : Nat} {v : Value} {l : List Int} (h : IRow w base v l) : ∀ k, v.ownBlock = some k → base ≤ k ∧ k < w.heap.size := World.ownsRow.lt h
theorem IRow.keep {w w' : World} {base : Nat} {v : Value} {l : List Int} (h : IRow w base v l) (hk : ∀ x, v.ownBlock = some x → w'.heap[x]? = w.heap[x]?) : IRow w' base v l := by
  obtain ⟨h1, h2⟩ := h
  refine ⟨h1, ?_⟩
  rcases h2 with h2 | ⟨g, cap, cur, rfl, hbg, hg, r⟩
  · exact .inl h2
  · exact .inr ⟨g, cap, cur, rfl, hbg, by rw [hk g rfl]; exact hg, r⟩
theorem IRow.made0 {w : World} {base : Nat} (hb : base ≤ w.heap.size) : IRow (w.alloc (.cells #[] 3)) base (.slice (some ⟨w.heap.size, 0, none⟩) 0 0) [] :=
  World.ownsRow_lit (w := w) #[] 0 hb (by simp [maxLen]) rfl
theorem IRow.form {w : World} {base : Nat} {v : Value} {l : List Int} (h : IRow w base v l) : ∃ a cap, v = .slice a l.length cap ∧ l.length ≤ cap ∧ cap ≤ 9223372036854775807 ∧ (l ≠ [] → ∃ g, a = some ⟨g, 0, none⟩ ∧ base ≤ g) := by
  rcases h.2 with ⟨rfl, hn⟩ | ⟨g, cap, cur, hv, hb, hg, hnc, hcm, _⟩
  · exact ⟨none, 0, by rw [hn], by omega, by omega, fun e => absurd (List.eq_nil_of_length_eq_zero hn) e⟩
  · exact ⟨_, _, hv, hnc, by simpa [maxLen] using hcm, fun _ => ⟨g, rfl, hb⟩⟩
theorem IRow.cells {w : World} {base g n cap i : Nat} {l : List Int} (h : IRow w base (.slice (some ⟨g, 0, none⟩) n cap) l) (hi : i < l.length) :
    w.cell? ⟨g, i, none⟩ = some (.int .i64 l[i]) ∧ w.frozen? ⟨g, i, none⟩ = false := by
  have hn : n = l.length := by
    rcases h.2 with ⟨h', _⟩ | ⟨g', cap', cur, h', _⟩ <;> simp at h'; exact h'.2.1
  subst hn
  refine ⟨?_, World.ownsRow.frozenAt h i⟩
  have := World.ownsRow.cells h (g := g) rfl i (.int .i64 l[i]) (by simp [List.getElem?_eq_getElem hi])
  rwa [addr_add _ _ rfl, Nat.zero_add] at this
section
variable {w : World} {ops : Array Oper} {rest : List Oper} {o : Oper} {a : Act} {Q : Exit → Act → World → Prop}
theorem app_ints (hgd : o.guard = none) (s x : Operand) (tx : TypeId)
    (ho : o.op = .call { callee := .builtin .append, args := #[s, x], argTypes := #[95, tx] })
    (base : Nat) (v : Value) (l : List Int) (hs : a.eval s = v) (hown : IRow w base v l) (xv : Value) (hx : a.eval x = xv) (news : List Int) (hsrc : Src Tryd.prog 1 tx xv news.length (news.map (.int .i64)) w)
    (h63 : l.length + news.length ≤ 1099511627776) (hbase : base ≤ w.heap.size)
    (h : ∀ v' w', IRow w' base v' (l ++ news) → w.grownBy w' v.ownBlock → FreshOr w v v' → wpList Tryd.prog ops Q rest (a.put o.dst v') w') : wpList Tryd.prog ops Q (o :: rest) a w := by
  obtain ⟨i0, hi, hz0, hz1, hz2⟩ := info_parts info_int
  exact wpList_app hgd s x 95 tx ho base 3 i0 (.int .i64 0) 1 8 Tryd.underlying95 hi hz0 hz1 hz2 rfl (by decide) v l.length (l.map (.int .i64)) hs hown xv hx news.length (news.map (.int .i64)) hsrc h63 hbase
    (fun v' w' h1 h2 h3 _ => h v' w' (by unfold IRow; rw [List.length_append, List.map_append]; exact h1) h2 h3)
end
theorem src_int1 (w : World) (x : Int) : Src Tryd.prog 1 95 (.slice (some ⟨w.heap.size, 0, none⟩) 1 1) [x].length ([x].map (.int .i64)) (w.alloc (.cells #[.int .i64 x] 3)) :=
  Src.ofSlice _ Tryd.underlying95 _ _ _ _ rfl (by intro j u hu; match j, hu with | 0, hu => (simp at hu; subst hu; exact cell_new_one _ _ _)) (by intro u hu; simp at hu; subst hu; rfl)
end Go.Proofs.YtaphlemmlmdkiaaDoor
