/- Lemmas for the statement of the last text of this claim: texts joined. -/
import Derived.WalkKit
import Derived.WalkSpells
import Derived.Deep.AppendSrc
import Derived.Laws.IdiomCopy
import Derived.Deep.Upon
import Derived.Lib.Hide
import Derived.WalkSmall
import Derived.Test.YtppmoajoffeleaaDoorRows
import Derived.ProofKit
import Derived.Lib.ValidLaws
import Derived.OpenShut
import Derived.ShutString
import Derived.SliceStrings
import Derived.Deep.RegionHeld3
import Derived.Deep.QuietTactic
import Derived.BigQuiet
import Derived.WalkLawsBesides
import Derived.IntWalk
import Derived.OwnWalk
import Derived.Deep.RegionWith
namespace Go.Proofs.YtppmoajoffeleaaDoor
set_option linter.unusedSimpArgs false
set_option linter.unusedVariables false
set_option maxRecDepth 100000
open Go.RowKit
theorem heap_setCells_same (g : Nat) (e : TypeId) : ∀ (vs : List Value) (o : Nat) (w : World) (cur : Array Value), w.heap[g]? = some (.cells cur e (0, 0)) → o + vs.length ≤ cur.size →
    ∃ cur', (w.setCells g o vs).heap[g]? = some (.cells cur' e (0, 0)) ∧ cur'.size = cur.size ∧ cur'.toList = cur.toList.take o ++ vs ++ cur.toList.drop (o + vs.length)
  | [], o, w, cur, h, _ => ⟨cur, h, rfl, by simp⟩
  | v :: vs, o, w, cur, h, hl => by
    simp only [List.length_cons] at hl
    have h1 := heap_setCell_same w g o cur e v h
    obtain ⟨cur', h2, h3, h4⟩ := heap_setCells_same g e vs (o + 1) (w.setCell ⟨g, o, none⟩ v) _ h1 (by simp; omega)
    refine ⟨cur', h2, by rw [h3]; simp, ?_⟩
    rw [h4]
    have ho : o < cur.toList.length := by rw [Array.length_toList]; omega
    simp only [Array.toList_setIfInBounds, List.length_cons]
    rw [List.take_set, List.drop_set_of_lt (by omega), List.take_succ_eq_append_getElem ho]
    have h5 : (List.take o cur.toList ++ [cur.toList[o]]).set o v = List.take o cur.toList ++ [v] := by
      have h6 : (List.take o cur.toList).length = o := by rw [List.length_take]; omega
      rw [List.set_append, if_neg (by omega), h6, Nat.sub_self]
      rfl
    rw [h5, show o + 1 + vs.length = o + (vs.length + 1) by omega]
    simp

theorem below_step {B : Nat} {a b c : World} (h : Below B a b) (h2 : Below b.heap.size b c) (hB : B ≤ a.heap.size) : Below B a c :=
  h.trans (h2.mono (Nat.le_trans hB h.size))
theorem below_mark {B C : Nat} {a b c : World} (h : Below B a b) (h2 : Below C b c) (hB : B ≤ C) : Below B a c := h.trans (h2.mono hB)
theorem below_alloc {B : Nat} {a w : World} (h : Below B a w) (o : Obj) (hB : B ≤ a.heap.size) : Below B a (w.alloc o) := h.alloc (Nat.le_trans hB h.size) o
def FreshOr (w : World) (v v' : Value) : Prop := v'.ownBlock = v.ownBlock ∨ v'.ownBlock = some w.heap.size

section
variable {P : Program} {w : World}
theorem run_app (base : Nat) (t tx ty e : TypeId) (i : TypeInfo) (z : Value) (size bytes : Nat) (ht : P.underlying t = some (.slice e)) (hi : P.info? e = some i) (hz : i.zero = some z)
    (hsize : i.size = size) (hby : i.bytes = bytes) (hzs : z.cells.size = size)
    (v : Value) (n : Nat) (xs : List Value) (hown : w.ownsRow base e size v n xs)
    (x : Value) (m : Nat) (news : List Value) (hs : Src P size tx x m news w)
    (h63 : n + m ≤ 1099511627776) (hb8 : bytes ≤ 128) (hbase : base ≤ w.heap.size) :
    ∃ v' w', (Builtin.append_ #[t, tx] ty #[v, x]).run P w = .ok v' w' ∧ w'.ownsRow base e size v' (n + m) (xs ++ news) ∧ w.grownBy w' v.ownBlock ∧ FreshOr w v v' ∧
      (v' = .slice none 0 0 ↔ v = .slice none 0 0 ∧ m = 0) := by
  subst hsize
  subst hby
  have hlen : (xs ++ news).length = (n + m) * i.size := by rw [List.length_append, hown.1, hs.newsLen, Nat.add_mul]
  have hbytes : (n + m) * i.bytes ≤ 140737488355328 := Nat.le_trans (Nat.mul_le_mul h63 hb8) (by decide)
  have grown : ∀ (old : Nat), old < n + m → ∀ (row : Option Nat),
      (w.drew.alloc (.cells ((xs ++ news).toArray ++ Builtin.zeroCells z.cells (grownCap w (n + m) old e - (n + m))) e)).ownsRow base e i.size
        (.slice (some ⟨w.heap.size, 0, none⟩) (n + m) (grownCap w (n + m) old e)) (n + m) (xs ++ news) ∧
      w.grownBy (w.drew.alloc (.cells ((xs ++ news).toArray ++ Builtin.zeroCells z.cells (grownCap w (n + m) old e - (n + m))) e)) row := by
    intro old ho row
    have hge := grownCap_ge w (n + m) old e
    have hcm : grownCap w (n + m) old e ≤ maxLen := grownCap_le_maxLen w (n + m) old e (by simp only [maxLen]; omega)
    refine ⟨⟨hlen, .inr ⟨w.heap.size, _, _, rfl, hbase, heap_alloc_new w.drew _, hge, hcm, ?_, ?_⟩⟩, ⟨rfl, rfl, rfl, by simp, fun k hk _ => heap_alloc_old w.drew _ hk⟩⟩
    · simp only [Array.size_append, List.size_toArray, size_zeroCells, hzs, hlen, ← Nat.add_mul]
      congr 1
      omega
    · simp only [Array.toList_append, ← hlen]
      exact List.take_left
  rcases hown.2 with ⟨rfl, rfl⟩ | ⟨g, cap, cur, rfl, hbg, hg, hnc, hcm, hcs, htake⟩
  · have hx : xs = [] := List.eq_nil_of_length_eq_zero (by simpa using hown.1)
    subst hx
    by_cases hm : m = 0
    · subst hm
      have hn : news = [] := List.eq_nil_of_length_eq_zero (by simpa using hs.newsLen)
      subst hn
      have hc := hs.cells
      refine ⟨.slice none 0 0, w, ?_, World.ownsRow_nil w base e i.size, ⟨rfl, rfl, rfl, Nat.le_refl _, fun _ _ _ => rfl⟩, .inl rfl, by simp⟩
      rcases hs.kind with ⟨e', hk⟩ | hk <;> simp [Builtin.append_, run_underlying ht, run_underlying hk, sizeOf, typeInfo, hi, hs.len, hc]
    · have hr := run_append_grow_src (P := P) w t tx ty e i z ht hi hz none 0 0 [] (run_firstCells_none w.drew i.size 0 0 0) x m news hs (by omega) (by omega) (by have hb := hbytes; exact growslice_fits (by omega) hb)
      have hgr := grown 0 (by omega) (Value.ownBlock (.slice none 0 0))
      simp only [Nat.zero_add, List.nil_append] at hgr hr ⊢
      exact ⟨_, _, hr, hgr.1, hgr.2, .inr rfl, by simp [hm]⟩
  · by_cases hroom : n + m ≤ cap
    · have hfit : n * i.size + news.length ≤ cur.size := by rw [hs.newsLen, hcs, ← Nat.add_mul]; exact Nat.mul_le_mul_right _ hroom
      have hr := run_append_room_src (P := P) w t tx ty e i ht hi g 0 n cap x m news hs hroom
        (by intro j hj; rw [cell_of_row w g _ cur e (0, 0) hg, Array.getElem?_eq_getElem (by omega)]; rfl) (by intro j hj; exact frozen_of_row w g _ cur e hg)
      obtain ⟨cur', h1, h2, h3⟩ := heap_setCells_same g e news (0 + n * i.size) w cur hg (by omega)
      refine ⟨_, _, hr, ⟨hlen, .inr ⟨g, cap, cur', rfl, hbg, h1, hroom, hcm, by rw [h2]; exact hcs, ?_⟩⟩, ⟨World.os_setCells .., ?_, World.output_setCells .., ?_, fun k hk hne => World.heap_setCells_other _ _ _ _ hk (fun e => hne (by simp [Value.ownBlock, e]))⟩, .inl rfl, by simp⟩
      · rw [h3, Nat.zero_add, htake, ← hlen]
        exact List.take_left
      · have : ∀ (vs : List Value) (o : Nat) (w : World), (w.setCells g o vs).tape = w.tape := by
          intro vs; induction vs with
          | nil => intro o w; rfl
          | cons v vs ih => intro o w; exact ih _ _
        exact this _ _ _
      · have : ∀ (vs : List Value) (o : Nat) (w : World), (w.setCells g o vs).heap.size = w.heap.size := by
          intro vs; induction vs with
          | nil => intro o w; rfl
          | cons v vs ih => intro o w; exact (ih _ _).trans (by simp)
        exact Nat.le_of_eq (this _ _ _).symm
    · have holds : ∀ j u, xs[j]? = some u → w.cell? ((⟨g, 0, none⟩ : Addr).add j) = some u := hown.cells (g := g) rfl
      have hr := run_append_grow_src (P := P) w t tx ty e i z ht hi hz (some ⟨g, 0, none⟩) n cap xs (run_firstCells_some w.drew i.size n ⟨g, 0, none⟩ n cap xs hown.1 (by simpa using holds)) x m news hs (by omega) (by omega) (growslice_fits (by omega) hbytes)
      have hgr := grown cap (by omega) (Value.ownBlock (.slice (some ⟨g, 0, none⟩) n cap))
      exact ⟨_, _, hr, hgr.1, hgr.2, .inr rfl, by simp⟩

theorem wpList_app {ops : Array Oper} {rest : List Oper} {o : Oper} {a : Act} {Q : Exit → Act → World → Prop} (hgd : o.guard = none) (s x : Operand) (t tx : TypeId)
    (ho : o.op = .call { callee := .builtin .append, args := #[s, x], argTypes := #[t, tx] })
    (base : Nat) (e : TypeId) (i : TypeInfo) (z : Value) (size bytes : Nat) (ht : P.underlying t = some (.slice e)) (hi : P.info? e = some i) (hz : i.zero = some z)
    (hsize : i.size = size) (hby : i.bytes = bytes) (hzs : z.cells.size = size) (hb8 : bytes ≤ 128)
    (v : Value) (n : Nat) (xs : List Value) (hs : a.eval s = v) (hown : w.ownsRow base e size v n xs)
    (xv : Value) (hx : a.eval x = xv) (m : Nat) (news : List Value) (hsrc : Src P size tx xv m news w)
    (h63 : n + m ≤ 1099511627776) (hbase : base ≤ w.heap.size)
    (h : ∀ v' w', w'.ownsRow base e size v' (n + m) (xs ++ news) → w.grownBy w' v.ownBlock → FreshOr w v v' → (v' = .slice none 0 0 ↔ v = .slice none 0 0 ∧ m = 0) → wpList P ops Q rest (a.put o.dst v') w') : wpList P ops Q (o :: rest) a w := by
  refine wpList_plain hgd fun K hK => ?_
  obtain ⟨v', w', hr, h2, h3, h4, h5⟩ := run_app (P := P) (w := w) base t tx o.type e i z size bytes ht hi hz hsize hby hzs v n xs hown xv m news hsrc h63 hb8 hbase
  unfold Oper.wp execOp
  simp only [ho, resolve, invoke, builtin, Sem.run_bind, Sem.run_pure, Result.andThen_ok, List.map_toArray, List.map_cons, List.map_nil, hs, hx, hr]
  exact hK _ _ (h v' w' h2 h3 h4 h5)
theorem step_app {ops : Array Oper} {o : Oper} {a : Act} {K : Act → World → Prop} {Q : Exit → Act → World → Prop} {X : Prop} (hgd : o.guard = none) (s x : Operand) (t tx : TypeId)
    (ho : o.op = .call { callee := .builtin .append, args := #[s, x], argTypes := #[t, tx] })
    (base : Nat) (e : TypeId) (i : TypeInfo) (z : Value) (size bytes : Nat) (ht : P.underlying t = some (.slice e)) (hi : P.info? e = some i) (hz : i.zero = some z)
    (hsize : i.size = size) (hby : i.bytes = bytes) (hzs : z.cells.size = size) (hb8 : bytes ≤ 128)
    (v : Value) (n : Nat) (xs : List Value) (hs : a.eval s = v) (hown : w.ownsRow base e size v n xs)
    (xv : Value) (hx : a.eval x = xv) (m : Nat) (news : List Value) (hsrc : Src P size tx xv m news w)
    (h63 : n + m ≤ 1099511627776) (hbase : base ≤ w.heap.size)
    (h : ∀ v' w', w'.ownsRow base e size v' (n + m) (xs ++ news) → w.grownBy w' v.ownBlock → FreshOr w v v' → (v' = .slice none 0 0 ↔ v = .slice none 0 0 ∧ m = 0) → K (a.put o.dst v') w') :
    if Region.wanted o (yielded ops a.tmps) = true then Oper.wp P o a w K Q else X := by
  have hw : Region.wanted o (yielded ops a.tmps) = true := by simp [Region.wanted, hgd]
  rw [if_pos hw]
  obtain ⟨v', w', hr, h2, h3, h4, h5⟩ := run_app (P := P) (w := w) base t tx o.type e i z size bytes ht hi hz hsize hby hzs v n xs hown xv m news hsrc h63 hb8 hbase
  unfold Oper.wp execOp
  simp only [ho, resolve, invoke, builtin, Sem.run_bind, Sem.run_pure, Result.andThen_ok, List.map_toArray, List.map_cons, List.map_nil, hs, hx, hr]
  exact h v' w' h2 h3 h4 h5
end
end Go.Proofs.YtppmoajoffeleaaDoor
namespace Go.Proofs.YtppmoajoffeleaaDoor
set_option linter.unusedSimpArgs false
set_option linter.unusedVariables false
set_option maxRecDepth 100000
open Go.RowKit
theorem info_u8 : (Tryd.prog.info? 5).map (fun i => (i.zero, i.size, i.bytes)) = some (some (.int .u8 0), 1, 1) := by kernel_rfl
def bys (l : List UInt8) : List Value := l.map fun c => Value.int .u8 c.toNat
abbrev bstr (l : List UInt8) : Value := .string ⟨l.toArray⟩
def BRow (w : World) (base : Nat) (v : Value) (l : List UInt8) : Prop := w.ownsRow base 5 1 v l.length (bys l)
theorem bys_length (l : List UInt8) : (bys l).length = l.length := by simp [bys]
theorem bys_append (l m : List UInt8) : bys (l ++ m) = bys l ++ bys m := by simp [bys]
theorem BRow.lt {w : World} {base : Nat} {v : Value} {l : List UInt8} (h : BRow w base v l) : ∀ k, v.ownBlock = some k → base ≤ k ∧ k < w.heap.size := World.ownsRow.lt h
section
variable {w : World} {ops : Array Oper} {rest : List Oper} {o : Oper} {a : Act} {Q : Exit → Act → World → Prop}
theorem app_bytes (hgd : o.guard = none) (s x : Operand) (tx : TypeId)
    (ho : o.op = .call { callee := .builtin .append, args := #[s, x], argTypes := #[22, tx] })
    (base : Nat) (v : Value) (l : List UInt8) (hs : a.eval s = v) (hown : BRow w base v l) (xv : Value) (hx : a.eval x = xv) (news : List UInt8) (hsrc : Src Tryd.prog 1 tx xv news.length (bys news) w)
    (h63 : l.length + news.length ≤ 1099511627776) (hbase : base ≤ w.heap.size)
    (h : ∀ v' w', BRow w' base v' (l ++ news) → w.grownBy w' v.ownBlock → FreshOr w v v' → wpList Tryd.prog ops Q rest (a.put o.dst v') w') : wpList Tryd.prog ops Q (o :: rest) a w := by
  obtain ⟨i0, hi, hz0, hz1, hz2⟩ := info_parts info_u8
  exact wpList_app hgd s x 22 tx ho base 5 i0 (.int .u8 0) 1 1 Tryd.underlying22 hi hz0 hz1 hz2 rfl (by decide) v l.length (bys l) hs hown xv hx news.length (bys news) hsrc h63 hbase
    (fun v' w' h1 h2 h3 _ => h v' w' (by unfold BRow; rw [List.length_append, bys_append]; exact h1) h2 h3)
end
theorem src_one (w : World) (c : UInt8) (b : Nat) (h : w.cell? ⟨b, 0, none⟩ = some (.int .u8 c.toNat)) : Src Tryd.prog 1 22 (.slice (some ⟨b, 0, none⟩) 1 1) [c].length (bys [c]) w :=
  Src.ofSlice w Tryd.underlying22 _ _ _ _ rfl (by intro j u hu; match j, hu with | 0, hu => (simp [bys] at hu; subst hu; exact h)) (by intro u hu; simp [bys] at hu; subst hu; rfl)
theorem cell_new_one (w : World) (x : Value) (t : TypeId) : (w.alloc (.cells #[x] t)).cell? ⟨w.heap.size, 0, none⟩ = some x := by
  rw [cell_of_row (w.alloc (.cells #[x] t)) w.heap.size 0 #[x] t (0, 0) (heap_alloc_new w _)]; rfl
theorem u8_back (x : Int) (h0 : 0 ≤ x) (h1 : x < 256) : ((UInt8.ofNat x.toNat).toNat : Int) = x := by simp; omega
theorem src_new (w : World) (x : Int) (h0 : 0 ≤ x) (h1 : x < 256) : Src Tryd.prog 1 22 (.slice (some ⟨w.heap.size, 0, none⟩) 1 1) [UInt8.ofNat x.toNat].length (bys [UInt8.ofNat x.toNat]) (w.alloc (.cells #[.int .u8 x] 5)) :=
  src_one _ _ _ (by rw [cell_new_one, u8_back x h0 h1])
theorem BRow.made {w : World} {base : Nat} (l : List UInt8) (hb : base ≤ w.heap.size) (hl : l.length ≤ 1099511627776) : BRow (w.alloc (.cells (bys l).toArray 5)) base (.slice (some ⟨w.heap.size, 0, none⟩) l.length l.length) l := by
  have := World.ownsRow_lit (w := w) (base := base) (e := 5) (size := 1) (bys l).toArray l.length hb (by simp only [maxLen]; omega) (by simp [bys_length])
  simpa [BRow] using this
theorem foldl_push (l : List UInt8) : ∀ s : ByteArray, (l.map fun c => (c.toNat : Int)).foldl (fun r n => r.push (UInt8.ofNat n.toNat)) s = ⟨s.data ++ l.toArray⟩ := by
  induction l with
  | nil => intro s; simp
  | cons c l ih => intro s; simp only [List.map_cons, List.foldl_cons]; rw [ih]; simp [ByteArray.push]
theorem run_str {w : World} {base : Nat} {v : Value} {l : List UInt8} (h : BRow w base v l) : (convert 22 9 v).run Tryd.prog w = .ok (bstr l) w := by
  rcases h.2 with ⟨rfl, hn⟩ | ⟨g, cap, cur, rfl, hbg, hg, hnc, hcm, hcs, htake⟩
  · have : l = [] := List.eq_nil_of_length_eq_zero hn
    subst this
    rw [run_convert_bytes_string w 22 9 5 none 0 0 Tryd.underlying22 Tryd.underlying5 Tryd.underlying9]
    rfl
  · rw [run_convert_bytes_string w 22 9 5 _ _ _ Tryd.underlying22 Tryd.underlying5 Tryd.underlying9]
    have hm : (l.map fun c => (c.toNat : Int)).map (Value.int .u8) = bys l := by simp [bys]
    rw [run_bytesToString w _ _ _ (l.map fun c => (c.toNat : Int)) (by
      have h1 := run_loadCells_list (P := Tryd.prog) w ⟨g, 0, none⟩ (bys l) (World.ownsRow.cells h rfl)
      rw [bys_length] at h1
      rw [hm]; exact h1)]
    rw [foldl_push]
    simp [bstr]
theorem bcell {W w1 : World} {B : Nat} (hb : Below B W w1) : (∀ b o, b < B → w1.cell? ⟨b, o, none⟩ = W.cell? ⟨b, o, none⟩) ∧ (∀ b o, b < B → w1.frozen? ⟨b, o, none⟩ = W.frozen? ⟨b, o, none⟩) :=
  ⟨fun b o h => hb.cell (p := ⟨b, o, none⟩) h, fun b o h => hb.frozen (p := ⟨b, o, none⟩) h⟩
end Go.Proofs.YtppmoajoffeleaaDoor
namespace Go.Proofs.YtppmoajoffeleaaDoor
set_option linter.unusedSimpArgs false
set_option linter.unusedVariables false
set_option maxRecDepth 100000
open Go.RowKit
def big : Nat → Nat → List UInt8
  | 0, _ => []
  | i + 1, n => UInt8.ofNat (n / 256 ^ i) :: big i n
end Go.Proofs.YtppmoajoffeleaaDoor
namespace Go.Proofs.YtppmoajoffeleaaDoor
set_option linter.unusedSimpArgs false
set_option linter.unusedVariables false
set_option maxRecDepth 100000
open Go.RowKit
inductive V where
  | mk (k n e : Int) (s : ByteArray) (kids : List V)
namespace V
set_option linter.unusedSimpArgs false
def k : V → Int | mk k _ _ _ _ => k
def n : V → Int | mk _ n _ _ _ => n
def e : V → Int | mk _ _ e _ _ => e
def s : V → ByteArray | mk _ _ _ s _ => s
def kids : V → List V | mk _ _ _ _ ks => ks
end V
theorem ba_ext {a b : ByteArray} (h : a.data.toList = b.data.toList) : a = b := by
  cases a; cases b; simp at h; rw [h]
instance baDec : DecidableEq ByteArray := fun a b => decidable_of_decidable_of_iff (p := a.data.toList = b.data.toList) ⟨ba_ext, fun h => by rw [h]⟩
theorem ba_eqv (a b : ByteArray) : (a.toList == b.toList) = decide (a = b) := by
  rw [ByteArray.toList_eq, ByteArray.toList_eq, Bool.eq_iff_iff]
  simp only [beq_iff_eq, decide_eq_true_eq]
  exact ⟨ba_ext, fun h => by rw [h]⟩
theorem ba_yes {a b : ByteArray} (h : a = b) : (a.toList == b.toList) = true := by rw [ba_eqv]; simpa using h
theorem ba_no {a b : ByteArray} (h : ¬ a = b) : (a.toList == b.toList) = false := by rw [ba_eqv]; simpa using h
mutual
def V.sz : V → Nat
  | .mk _ _ _ s ks => s.size + szs ks
def szs : List V → Nat
  | [] => 0
  | t :: ts => 1 + t.sz + szs ts
 end
def In64 (n : Int) : Prop := -9223372036854775808 ≤ n ∧ n ≤ 9223372036854775807
def V.wf (t : V) : Prop := In64 t.k ∧ In64 t.n ∧ In64 t.e ∧ t.s.size ≤ 9223372036854775807
def Cells5 (w : World) (b o : Nat) (t : V) (sl : Value) : Prop :=
  w.cell? ⟨b, o, none⟩ = some (.int .i64 t.k) ∧ w.cell? ⟨b, o + 1, none⟩ = some (.int .i64 t.n) ∧ w.cell? ⟨b, o + 2, none⟩ = some (.int .i64 t.e) ∧ w.cell? ⟨b, o + 3, none⟩ = some (.string t.s) ∧ w.cell? ⟨b, o + 4, none⟩ = some sl
inductive RepS (w : World) : Value → List V → Prop
  | mk (a : Option Addr) (b off cap : Nat) (ts : List V) (sls : Nat → Value) (ha : ts ≠ [] → a = some ⟨b, off, none⟩) (hc : ts.length ≤ cap) (hm : cap ≤ 9223372036854775807)
      (hb : ts ≠ [] → b < w.heap.size) (cells : ∀ i (h : i < ts.length), Cells5 w b (off + i * 5) ts[i] (sls i)) (wfs : ∀ i (h : i < ts.length), ts[i].wf)
      (kids : ∀ i (h : i < ts.length), RepS w (sls i) ts[i].kids) : RepS w (.slice a ts.length cap) ts
def V.agg (t : V) (sl : Value) : Value := .agg #[.int .i64 t.k, .int .i64 t.n, .int .i64 t.e, .string t.s, sl]
def Rep (w : World) (v : Value) (t : V) : Prop := ∃ sl, v = t.agg sl ∧ t.wf ∧ RepS w sl t.kids
theorem Cells5.keep {w w' : World} {b o : Nat} {t : V} {sl : Value} (h : Cells5 w b o t sl) (hb : w'.heap[b]? = w.heap[b]?) : Cells5 w' b o t sl := by
  obtain ⟨h0, h1, h2, h3, h4⟩ := h
  refine ⟨?_, ?_, ?_, ?_, ?_⟩
  · rw [World.cell?_of_block (w := w) (w' := w') hb]; exact h0
  · rw [World.cell?_of_block (w := w) (w' := w') hb]; exact h1
  · rw [World.cell?_of_block (w := w) (w' := w') hb]; exact h2
  · rw [World.cell?_of_block (w := w) (w' := w') hb]; exact h3
  · rw [World.cell?_of_block (w := w) (w' := w') hb]; exact h4
theorem RepS.keep {w w' : World} {v : Value} {ts : List V} (h : RepS w v ts) (hb : Below w.heap.size w w') : RepS w' v ts := by
  induction h with
  | mk a b off cap ts sls ha hc hm hbb cells wfs kids ih =>
    refine .mk a b off cap ts sls ha hc hm (fun hne => Nat.lt_of_lt_of_le (hbb hne) hb.size) ?_ wfs ih
    intro i hi
    exact (cells i hi).keep (hb.block b (hbb (by intro e; subst e; simp at hi)))
theorem RepS.slice {w : World} {v : Value} {ts : List V} (h : RepS w v ts) : ∃ a cap, v = .slice a ts.length cap := by
  cases h with
  | mk a b off cap ts0 sls ha hc hm hbb cells wfs kids => exact ⟨a, cap, rfl⟩
theorem Rep.keep {w w' : World} {v : Value} {t : V} (h : Rep w v t) (hb : Below w.heap.size w w') : Rep w' v t := by
  obtain ⟨sl, rfl, hw, hr⟩ := h
  exact ⟨sl, rfl, hw, hr.keep hb⟩
theorem szs_mem {t : V} {ts : List V} (h : t ∈ ts) : t.sz + 1 ≤ szs ts := by
  induction ts with
  | nil => cases h
  | cons u us ih =>
    rw [szs]
    cases h with
    | head => omega
    | tail _ h => have := ih h; omega
theorem szs_length (ts : List V) : ts.length ≤ szs ts := by
  induction ts with
  | nil => simp
  | cons u us ih => rw [szs, List.length_cons]; omega
theorem szs_append (a b : List V) : szs (a ++ b) = szs a + szs b := by
  induction a with
  | nil => simp [szs]
  | cons u us ih => rw [List.cons_append, szs, szs, ih]; omega
theorem V.sz_eq (t : V) : t.sz = t.s.size + szs t.kids := by cases t; rw [V.sz]; rfl
theorem V.eta (t : V) : V.mk t.k t.n t.e t.s t.kids = t := by cases t; rfl
theorem addr_add (a : Addr) (n : Nat) (h : a.spot = none) : a.add n = ⟨a.block, a.off + n, none⟩ := by
  cases a with
  | mk b o s => simp at h; subst h; unfold Addr.add; split <;> simp_all
end Go.Proofs.YtppmoajoffeleaaDoor
namespace Go.Proofs.YtppmoajoffeleaaDoor
set_option linter.unusedSimpArgs false
set_option linter.unusedVariables false
set_option maxRecDepth 100000
open Go.RowKit
def txt (s : ByteArray) : Bool := Lib.validD s.data.toList
mutual
def V.dec : (a b : V) → Decidable (a = b)
  | .mk k n e s ks, .mk k' n' e' s' ks' =>
    if h1 : k = k' ∧ n = n' ∧ e = e' ∧ s = s' then
      match decs ks ks' with
      | isTrue h => isTrue (by obtain ⟨rfl, rfl, rfl, rfl⟩ := h1; rw [h])
      | isFalse h => isFalse (fun x => h (by injection x))
    else isFalse (fun x => h1 (by injection x with a b c d; exact ⟨a, b, c, d⟩))
def decs : (a b : List V) → Decidable (a = b)
  | [], [] => isTrue rfl
  | [], _ :: _ => isFalse (by simp)
  | _ :: _, [] => isFalse (by simp)
  | a :: xs, b :: bs => match V.dec a b with
    | isFalse h => isFalse (fun x => h (by injection x))
    | isTrue h => match decs xs bs with
      | isTrue h2 => isTrue (by rw [h, h2])
      | isFalse h2 => isFalse (fun x => h2 (by injection x))
 end
instance : DecidableEq V := V.dec
def fits10 (n : Int) : Nat → Option Int
  | 0 => some n
  | e + 1 => if -9223372036854775808 ≤ n * 10 ∧ n * 10 ≤ 9223372036854775807 then fits10 (n * 10) e else none
def decOk (n e : Int) : Bool :=
  decide (n.tmod 10 ≠ 0 ∧ -999999999999999999 ≤ n ∧ n ≤ 999999999999999999 ∧ -20 ≤ e ∧ e ≤ 20 ∧ e ≠ 0) && !(decide (0 < e) && (fits10 n e.toNat).isSome)
def isKeyB (t : V) : Bool := decide (t.k = 5 ∨ t.k = 3)
def evV : List V → List V
  | [] => []
  | [t] => [t]
  | t :: _ :: ts => t :: evV ts
def keyEq (a b : V) : Prop := a.k = b.k ∧ a.n = b.n ∧ a.s = b.s
instance (a b : V) : Decidable (keyEq a b) := by unfold keyEq; exact inferInstance
def keysB (eq : V → V → Bool) (ts : List V) : Bool := ts.all isKeyB && decide (ts.Pairwise fun a b => eq a b = false)
def pairsB (ts : List V) : Bool := keysB (fun a b => decide (keyEq a b)) (evV ts) && decide (ts.length % 2 = 0) && decide (ts.length ≤ 300)
def pairsI (ts : List V) : Bool := keysB (fun a b => decide (a = b)) (evV ts) && decide (ts.length % 2 = 0)
def nodeB (t : V) : Bool :=
  if t.k = 0 ∨ t.k = 1 ∨ t.k = 2 ∨ t.k = 7 ∨ t.k = 8 then decide (t.n = 0 ∧ t.e = 0 ∧ t.s.size = 0)
  else if t.k = 3 then decide (t.e = 0 ∧ t.s.size = 0)
  else if t.k = 4 then decOk t.n t.e && decide (t.s.size = 0)
  else if t.k = 5 then decide (t.n = 0 ∧ t.e = 0 ∧ t.s.size ≤ 2000) && txt t.s
  else if t.k = 6 then decide (t.n = 0 ∧ t.e = 0 ∧ t.s.size ≤ 2000)
  else if t.k = 9 then decide (0 ≤ t.n ∧ t.n ≤ 1000000 ∧ t.e = 0 ∧ t.s.size = 0)
  else false
def areB (t : V) : Bool :=
  if t.k = 7 then true else if t.k = 9 then decide (t.kids.length = 1) else if t.k = 8 then pairsI t.kids else decide (t.kids.length = 0)
def ownB (t : V) : Bool :=
  nodeB t && (if t.k = 7 then true else if t.k = 9 then decide (t.kids.length = 1) else if t.k = 8 then pairsB t.kids else decide (t.kids.length = 0))
mutual
def rightB : V → Int → Bool
  | .mk k n e s ks, d => decide (0 ≤ d) && ownB (.mk k n e s ks) && rightsB ks (d - 1)
def rightsB : List V → Int → Bool
  | [], _ => true
  | t :: ts, d => rightB t d && rightsB ts d
 end
mutual
def V.nodes : V → Nat
  | .mk _ _ _ _ ks => 1 + nodess ks
def nodess : List V → Nat
  | [] => 0
  | t :: ts => t.nodes + nodess ts
 end
theorem V.nodes_eq (t : V) : t.nodes = 1 + nodess t.kids := by cases t; rw [V.nodes]; rfl
theorem rightB_eq (t : V) (d : Int) : rightB t d = (decide (0 ≤ d) && ownB t && rightsB t.kids (d - 1)) := by cases t; rw [rightB]; rfl
theorem nodess_length : ∀ ts : List V, ts.length ≤ nodess ts
  | [] => by simp
  | t :: ts => by have := nodess_length ts; have := V.nodes_eq t; simp only [nodess, List.length_cons]; omega
theorem nodess_append : ∀ a b : List V, nodess (a ++ b) = nodess a + nodess b
  | [], b => by simp [nodess]
  | t :: a, b => by simp only [List.cons_append, nodess, nodess_append a b]; omega
mutual
theorem nodes_sz : ∀ t : V, t.nodes ≤ 1 + t.sz
  | .mk k n e s ks => by have := nodess_sz ks; simp only [V.nodes, V.sz]; omega
theorem nodess_sz : ∀ ts : List V, nodess ts ≤ szs ts
  | [] => by simp [nodess]
  | t :: ts => by have h1 := nodes_sz t; have h2 := nodess_sz ts; simp only [nodess, szs]; omega
 end
def okT (t : V) : Bool := rightB t 12 && decide (t.nodes ≤ 300)
theorem rightsB_all (ts : List V) (d : Int) : rightsB ts d = ts.all fun t => rightB t d := by
  induction ts with
  | nil => rfl
  | cons t ts ih => simp only [rightsB, List.all_cons, ih]
def impStep (t : V) (d L : Int) : Bool := decide (0 ≤ L - 1 ∧ d ≤ 12 ∧ (t.kids.length : Int) ≤ L - 1) && nodeB t && areB t
mutual
def imp : V → Int → Int → Option Int
  | .mk k n e s ks, d, L => if impStep (.mk k n e s ks) d L then imps ks (d + 1) (L - 1) else none
def imps : List V → Int → Int → Option Int
  | [], _, L => some L
  | t :: ts, d, L => (imp t d L).bind fun L' => imps ts d L'
 end
theorem imp_eq (t : V) (d L : Int) : imp t d L = if impStep t d L then imps t.kids (d + 1) (L - 1) else none := by cases t; rw [imp]; rfl
theorem mem_evV {t : V} : ∀ {ts : List V}, t ∈ evV ts → t ∈ ts
  | [], h => by simp [evV] at h
  | [u], h => by simpa [evV] using h
  | u :: v :: ts, h => by
    simp only [evV, List.mem_cons] at h
    rcases h with h | h
    · simp [h]
    · have := mem_evV h; simp [this]
theorem ba_empty {s : ByteArray} (h : s.size = 0) : s = ⟨#[]⟩ := by cases s; rename_i d; simp [ByteArray.size] at h; simp [h]
theorem key_full {t : V} (hk : isKeyB t = true) (hn : nodeB t = true) (hr : t.kids.length = 0) : t = if t.k = 5 then .mk 5 0 0 t.s [] else .mk 3 t.n 0 ⟨#[]⟩ [] := by
  have hk' : t.k = 5 ∨ t.k = 3 := of_decide_eq_true hk
  have hr' : t.kids = [] := List.eq_nil_of_length_eq_zero hr
  have he := V.eta t
  unfold nodeB at hn
  rcases hk' with h5 | h3
  · rw [if_pos h5]
    rw [if_neg (by omega), if_neg (by omega), if_neg (by omega), if_pos h5] at hn
    simp only [Bool.and_eq_true, decide_eq_true_eq] at hn
    rw [h5, hn.1.1, hn.1.2.1, hr'] at he
    exact he.symm
  · rw [if_neg (by omega)]
    rw [if_neg (by omega), if_pos h3] at hn
    simp only [decide_eq_true_eq] at hn
    rw [h3, hn.1, ba_empty hn.2, hr'] at he
    exact he.symm
theorem keyEq_iff {a b : V} (ha : isKeyB a = true ∧ nodeB a = true ∧ a.kids.length = 0) (hb : isKeyB b = true ∧ nodeB b = true ∧ b.kids.length = 0) : keyEq a b ↔ a = b := by
  constructor
  · rintro ⟨h1, h2, h3⟩
    rw [key_full ha.1 ha.2.1 ha.2.2, key_full hb.1 hb.2.1 hb.2.2, h1, h2, h3]
  · rintro rfl; exact ⟨rfl, rfl, rfl⟩
theorem pairwise_congr {α : Type} {R S : α → α → Prop} {l : List α} (h : ∀ a ∈ l, ∀ b ∈ l, R a b ↔ S a b) : l.Pairwise R ↔ l.Pairwise S := by
  induction l with
  | nil => simp
  | cons x l ih =>
    simp only [List.pairwise_cons]
    rw [ih (fun a ha b hb => h a (List.mem_cons_of_mem _ ha) b (List.mem_cons_of_mem _ hb))]
    constructor
    · rintro ⟨h1, h2⟩; exact ⟨fun a ha => (h x (List.mem_cons_self ..) a (List.mem_cons_of_mem _ ha)).1 (h1 a ha), h2⟩
    · rintro ⟨h1, h2⟩; exact ⟨fun a ha => (h x (List.mem_cons_self ..) a (List.mem_cons_of_mem _ ha)).2 (h1 a ha), h2⟩
theorem rightB_leaf {t : V} {d : Int} (h : rightB t d = true) : nodeB t = true ∧ (isKeyB t = true → t.kids.length = 0) := by
  rw [rightB_eq] at h
  simp only [Bool.and_eq_true, ownB] at h
  refine ⟨h.1.2.1, fun hk => ?_⟩
  have h2 := h.1.2.2
  simp only [isKeyB, decide_eq_true_eq] at hk
  rw [if_neg (by omega), if_neg (by omega), if_neg (by omega)] at h2
  simpa using h2
theorem pairs_same {ts : List V} {d : Int} (h : rightsB ts d = true) (hl : ts.length ≤ 300) : pairsB ts = pairsI ts := by
  rw [rightsB_all, List.all_eq_true] at h
  unfold pairsB pairsI keysB
  rw [decide_eq_true hl, Bool.and_true]
  congr 1
  by_cases ha : (evV ts).all isKeyB = true
  · rw [ha, Bool.true_and, Bool.true_and, decide_eq_decide]
    rw [List.all_eq_true] at ha
    apply pairwise_congr
    intro a hA b hB
    have h1 := rightB_leaf (h a (mem_evV hA))
    have h2 := rightB_leaf (h b (mem_evV hB))
    rw [decide_eq_false_iff_not, decide_eq_false_iff_not, keyEq_iff ⟨ha a hA, h1.1, h1.2 (ha a hA)⟩ ⟨ha b hB, h2.1, h2.2 (ha b hB)⟩]
  · rw [Bool.eq_false_iff.2 ha, Bool.false_and, Bool.false_and]
theorem own_are {t : V} {d : Int} (h : rightsB t.kids d = true) (hl : t.kids.length ≤ 300) : ownB t = (nodeB t && areB t) := by
  unfold ownB areB
  rw [pairs_same h hl]
mutual
theorem imp_is : ∀ (t : V) (d L : Int), 0 ≤ d → 0 ≤ L → L ≤ 300 → imp t d L = if rightB t (12 - d) = true ∧ (t.nodes : Int) ≤ L then some (L - t.nodes) else none
  | .mk k n e s ks, d, L, hd, hL, hL3 => by
    have hlen := nodess_length ks
    rw [imp, rightB, V.nodes]
    by_cases h1 : 0 ≤ L - 1
    · rw [imps_is ks (d + 1) (L - 1) (by omega) h1 (by omega)]
      rw [show 12 - (d + 1) = 12 - d - 1 by omega]
      by_cases hr : rightsB ks (12 - d - 1) = true ∧ (nodess ks : Int) ≤ L - 1
      · rw [if_pos hr]
        have ho := own_are (t := .mk k n e s ks) hr.1 (by simp only [V.kids]; omega)
        rw [ho]
        by_cases hs : impStep (.mk k n e s ks) d L = true
        · rw [if_pos hs]
          simp only [impStep, Bool.and_eq_true] at hs
          have hd1 := of_decide_eq_true hs.1.1
          rw [if_pos ⟨by rw [decide_eq_true (show 0 ≤ 12 - d by omega), hr.1, hs.1.2, hs.2]; rfl, by omega⟩]
          congr 1; omega
        · rw [if_neg hs, if_neg]
          rintro ⟨h2, h3⟩
          simp only [Bool.and_eq_true, decide_eq_true_eq] at h2
          apply hs
          simp only [impStep, Bool.and_eq_true]
          exact ⟨⟨decide_eq_true ⟨h1, by omega, by show (ks.length : Int) ≤ _; omega⟩, h2.1.2.1⟩, h2.1.2.2⟩
      · rw [if_neg hr]
        have hno : ¬ ((decide (0 ≤ 12 - d) && ownB (.mk k n e s ks) && rightsB ks (12 - d - 1)) = true ∧ ((1 + nodess ks : Nat) : Int) ≤ L) := by
          rintro ⟨h2, h3⟩
          simp only [Bool.and_eq_true] at h2
          exact hr ⟨h2.2, by omega⟩
        rw [if_neg hno]
        split <;> rfl
    · rw [if_neg, if_neg]
      · rintro ⟨_, h3⟩; omega
      · simp [impStep]; omega
theorem imps_is : ∀ (ts : List V) (d L : Int), 0 ≤ d → 0 ≤ L → L ≤ 300 → imps ts d L = if rightsB ts (12 - d) = true ∧ (nodess ts : Int) ≤ L then some (L - nodess ts) else none
  | [], d, L, hd, hL, hL3 => by rw [imps, if_pos ⟨rfl, by simpa [nodess] using hL⟩]; simp [nodess]
  | t :: ts, d, L, hd, hL, hL3 => by
    rw [imps, imp_is t d L hd hL hL3, rightsB, nodess]
    by_cases h1 : rightB t (12 - d) = true ∧ (t.nodes : Int) ≤ L
    · rw [if_pos h1, Option.bind_some, imps_is ts d (L - t.nodes) hd (by omega) (by omega)]
      by_cases h2 : rightsB ts (12 - d) = true ∧ (nodess ts : Int) ≤ L - t.nodes
      · rw [if_pos h2, if_pos ⟨by rw [h1.1, h2.1]; rfl, by omega⟩]; congr 1; omega
      · rw [if_neg h2, if_neg]
        rintro ⟨h3, h4⟩
        simp only [Bool.and_eq_true] at h3
        exact h2 ⟨h3.2, by omega⟩
    · rw [if_neg h1, if_neg]
      · rfl
      · rintro ⟨h3, h4⟩
        simp only [Bool.and_eq_true] at h3
        exact h1 ⟨h3.1, by omega⟩
 end
theorem imp_ok (t : V) : (imp t 0 300).isSome = okT t := by
  rw [imp_is t 0 300 (by omega) (by omega) (by omega)]
  unfold okT
  rw [show (12 : Int) - 0 = 12 by omega]
  by_cases h : rightB t 12 = true ∧ (t.nodes : Int) ≤ 300
  · rw [if_pos h]; simp [h.1]; omega
  · rw [if_neg h]
    cases h2 : rightB t 12
    · rfl
    · simp [h2] at h; simp; omega
end Go.Proofs.YtppmoajoffeleaaDoor
namespace Go.Proofs.YtppmoajoffeleaaDoor
set_option linter.unusedSimpArgs false
set_option linter.unusedVariables false
set_option maxRecDepth 100000
open Go.RowKit
inductive OwnS (w : World) : (Nat → Prop) → Value → List V → Prop
  | mk (F : Nat → Prop) (a : Option Addr) (b off cap : Nat) (ts : List V) (sls : Nat → Value) (Fs : Nat → Nat → Prop) (ha : ts ≠ [] → a = some ⟨b, off, none⟩) (hc : ts.length ≤ cap) (hm : cap ≤ 9223372036854775807)
      (hb : ts ≠ [] → F b ∧ ∃ cur e, w.heap[b]? = some (.cells cur e (0, 0)))
      (hF : ∀ i, i < ts.length → ∀ x, Fs i x → F x ∧ x ≠ b) (hd : ∀ i j, i < j → j < ts.length → ∀ x, Fs i x → ¬ Fs j x)
      (cells : ∀ i (h : i < ts.length), Cells5 w b (off + i * 5) ts[i] (sls i)) (wfs : ∀ i (h : i < ts.length), ts[i].wf)
      (kids : ∀ i (h : i < ts.length), OwnS w (Fs i) (sls i) ts[i].kids) : OwnS w F (.slice a ts.length cap) ts
theorem lt_of_heap {w : World} {b : Nat} {o : Obj} (h : w.heap[b]? = some o) : b < w.heap.size := by
  rcases Nat.lt_or_ge b w.heap.size with h1 | h1
  · exact h1
  · rw [Array.getElem?_eq_none h1] at h; cases h
theorem OwnS.rep {w : World} {F : Nat → Prop} {v : Value} {ts : List V} (h : OwnS w F v ts) : RepS w v ts := by
  induction h with
  | mk F a b off cap ts sls Fs ha hc hm hb hF hd cells wfs kids ih =>
    exact .mk a b off cap ts sls ha hc hm (fun hne => by obtain ⟨_, cur, e, h⟩ := hb hne; exact lt_of_heap h) cells wfs ih
theorem OwnS.mono {w : World} {F F' : Nat → Prop} {v : Value} {ts : List V} (h : OwnS w F v ts) (hF : ∀ x, F x → F' x) : OwnS w F' v ts := by
  cases h with
  | mk F0 a b off cap ts0 sls Fs ha hc hm hb hFF hd cells wfs kids =>
    exact .mk F' a b off cap ts sls Fs ha hc hm (fun hne => ⟨hF _ (hb hne).1, (hb hne).2⟩) (fun i hi x hx => ⟨hF _ (hFF i hi x hx).1, (hFF i hi x hx).2⟩) hd cells wfs kids
theorem OwnS.keep {w w' : World} {F : Nat → Prop} {v : Value} {ts : List V} (h : OwnS w F v ts) (hk : ∀ x, F x → x < w.heap.size → w'.heap[x]? = w.heap[x]?) : OwnS w' F v ts := by
  induction h with
  | mk F a b off cap ts sls Fs ha hc hm hb hF hd cells wfs kids ih =>
    have e : ts ≠ [] → w'.heap[b]? = w.heap[b]? := fun hne => by obtain ⟨h1, cur, e, h2⟩ := hb hne; exact hk b h1 (lt_of_heap h2)
    refine .mk F a b off cap ts sls Fs ha hc hm (fun hne => ⟨(hb hne).1, by rw [e hne]; exact (hb hne).2⟩) hF hd ?_ wfs (fun i hi => ih i hi (fun x hx hxs => hk x (hF i hi x hx).1 hxs))
    intro i hi
    exact (cells i hi).keep (e (by intro e; subst e; simp at hi))
theorem OwnS.bound {w : World} {F : Nat → Prop} {v : Value} {ts : List V} (h : OwnS w F v ts) : OwnS w (fun x => F x ∧ x < w.heap.size) v ts := by
  induction h with
  | mk F a b off cap ts sls Fs ha hc hm hb hF hd cells wfs kids ih =>
    refine .mk _ a b off cap ts sls (fun i x => Fs i x ∧ x < w.heap.size) ha hc hm (fun hne => ⟨⟨(hb hne).1, ?_⟩, (hb hne).2⟩) (fun i hi x hx => ⟨⟨(hF i hi x hx.1).1, hx.2⟩, (hF i hi x hx.1).2⟩) (fun i j hij hj x hx hx' => hd i j hij hj x hx.1 hx'.1) cells wfs ih
    obtain ⟨_, cur, e, h⟩ := hb hne; exact lt_of_heap h
theorem OwnS.stay {w w' : World} {B : Nat} {v : Value} {ts : List V} (h : OwnS w (fun x => B ≤ x) v ts) (hb : Below w.heap.size w w') : OwnS w' (fun x => B ≤ x) v ts :=
  h.keep (fun x _ hx => hb.block x hx)
theorem OwnS.set {w : World} {F : Nat → Prop} {v : Value} {ts : List V} (h : OwnS w F v ts) (p : Addr) (u : Value) (hp : ¬ F p.block) : OwnS (w.setCell p u) F v ts :=
  h.keep (fun x hx _ => Below.heap_setCell _ _ _ _ (fun e => hp (e ▸ hx)))
theorem OwnS.alloc {w : World} {F : Nat → Prop} {v : Value} {ts : List V} (h : OwnS w F v ts) (o : Obj) : OwnS (w.alloc o) F v ts :=
  h.keep (fun x _ hs => Below.heap_alloc _ _ _ hs)
theorem OwnS.drew {w : World} {F : Nat → Prop} {v : Value} {ts : List V} (h : OwnS w F v ts) : OwnS w.drew F v ts :=
  h.keep (fun _ _ _ => rfl)
theorem OwnS.nil (w : World) (F : Nat → Prop) : OwnS w F (.slice none 0 0) [] :=
  .mk F none 0 0 0 [] (fun _ => .nilIface) (fun _ _ => False) (by simp) (by simp) (by omega) (by simp) (by simp) (by simp) (by simp) (by simp) (by simp)
theorem OwnS.slice {w : World} {F : Nat → Prop} {v : Value} {ts : List V} (h : OwnS w F v ts) : ∃ a cap, v = .slice a ts.length cap := by
  cases h with
  | mk F0 a b off cap ts0 sls Fs ha hc hm hb hFF hd cells wfs kids => exact ⟨a, cap, rfl⟩
def flat : List V → List Value → List Value
  | t :: ts, sl :: sls => .int .i64 t.k :: .int .i64 t.n :: .int .i64 t.e :: .string t.s :: sl :: flat ts sls
  | _, _ => []
theorem flat_length : ∀ (ts : List V) (sls : List Value), sls.length = ts.length → (flat ts sls).length = ts.length * 5
  | [], _, _ => by simp [flat]
  | t :: ts, [], h => by simp at h
  | t :: ts, sl :: sls, h => by simp only [flat, List.length_cons] at *; rw [flat_length ts sls (by omega)]; omega
theorem flat_append : ∀ (ts us : List V) (sls sms : List Value), sls.length = ts.length → flat (ts ++ us) (sls ++ sms) = flat ts sls ++ flat us sms
  | [], us, [], sms, _ => by simp [flat]
  | [], us, _ :: _, sms, h => by simp at h
  | t :: ts, us, [], sms, h => by simp at h
  | t :: ts, us, sl :: sls, sms, h => by simp only [flat, List.cons_append]; rw [flat_append ts us sls sms (by simpa using h)]
theorem flat_get : ∀ (ts : List V) (sls : List Value) (i : Nat) (h : i < ts.length) (h2 : i < sls.length),
    (flat ts sls)[i * 5]? = some (.int .i64 ts[i].k) ∧ (flat ts sls)[i * 5 + 1]? = some (.int .i64 ts[i].n) ∧ (flat ts sls)[i * 5 + 2]? = some (.int .i64 ts[i].e) ∧ (flat ts sls)[i * 5 + 3]? = some (.string ts[i].s) ∧ (flat ts sls)[i * 5 + 4]? = some sls[i]
  | [], _, i, h, _ => by simp at h
  | t :: ts, [], i, _, h => by simp at h
  | t :: ts, sl :: sls, 0, _, _ => by simp [flat]
  | t :: ts, sl :: sls, i + 1, h, h2 => by
    have := flat_get ts sls i (by simpa using h) (by simpa using h2)
    simp only [flat, show (i + 1) * 5 = i * 5 + 5 by omega]
    simpa using this
structure VRow (w : World) (base : Nat) (E : TypeId) (G : Nat → Prop) (v : Value) (ts : List V) (sls : List Value) (Fs : Nat → Nat → Prop) : Prop where
  row : w.ownsRow base E 5 v ts.length (flat ts sls)
  len : sls.length = ts.length
  wfs : ∀ i (h : i < ts.length), ts[i].wf
  kids : ∀ i (h : i < ts.length), OwnS w (Fs i) (sls.getD i undef) ts[i].kids
  sub : ∀ i, i < ts.length → ∀ x, Fs i x → G x
  dis : ∀ i j, i < j → j < ts.length → ∀ x, Fs i x → ¬ Fs j x
  own : ∀ g, v.ownBlock = some g → ¬ G g
  inG : ∀ x, G x → base ≤ x ∧ x < w.heap.size
def VRows (w : World) (base : Nat) (E : TypeId) (G : Nat → Prop) (v : Value) (ts : List V) : Prop := ∃ sls Fs, VRow w base E G v ts sls Fs
theorem VRows.own {w : World} {base : Nat} {E : TypeId} {G : Nat → Prop} {v : Value} {ts : List V} (h : VRows w base E G v ts) : OwnS w (fun x => base ≤ x) v ts := by
  obtain ⟨sls, Fs, h⟩ := h
  rcases h.row.2 with ⟨rfl, hn⟩ | ⟨g, cap, cur, rfl, hbg, hg, hnc, hcm, hcs, htake⟩
  · obtain rfl : ts = [] := List.eq_nil_of_length_eq_zero hn
    exact OwnS.nil _ _
  · have hcell : ∀ j u, (flat ts sls)[j]? = some u → w.cell? ⟨g, j, none⟩ = some u := by
      intro j u hu
      have := h.row.cells (g := g) rfl j u hu
      rwa [addr_add _ _ rfl, Nat.zero_add] at this
    refine .mk _ (some ⟨g, 0, none⟩) g 0 cap ts (fun i => sls.getD i undef) Fs (fun _ => rfl) hnc (by simpa [maxLen] using hcm) (fun _ => ⟨hbg, cur, E, hg⟩) ?_ h.dis ?_ h.wfs h.kids
    · intro i hi x hx
      have hG := h.sub i hi x hx
      exact ⟨(h.inG x hG).1, by intro e; subst e; exact h.own x rfl hG⟩
    · intro i hi
      have hi2 : i < sls.length := by rw [h.len]; exact hi
      obtain ⟨h0, h1, h2, h3, h4⟩ := flat_get ts sls i hi hi2
      rw [Nat.zero_add, List.getD_eq_getElem?_getD, List.getElem?_eq_getElem hi2]
      exact ⟨hcell _ _ h0, hcell _ _ h1, hcell _ _ h2, hcell _ _ h3, hcell _ _ h4⟩
theorem VRows.inG {w : World} {base : Nat} {E : TypeId} {G : Nat → Prop} {v : Value} {ts : List V} (h : VRows w base E G v ts) : ∀ x, G x → base ≤ x ∧ x < w.heap.size := by
  obtain ⟨sls, Fs, h⟩ := h; exact h.inG
theorem VRows.nil (w : World) (base : Nat) (E : TypeId) : VRows w base E (fun _ => False) (.slice none 0 0) [] :=
  ⟨[], fun _ _ => False, ⟨World.ownsRow_nil w base E 5, rfl, by simp, by simp, by simp, by simp, by simp, by simp⟩⟩
theorem VRows.lt {w : World} {base : Nat} {E : TypeId} {G : Nat → Prop} {v : Value} {ts : List V} (h : VRows w base E G v ts) : ∀ k, v.ownBlock = some k → base ≤ k ∧ k < w.heap.size := by
  obtain ⟨sls, Fs, h⟩ := h; exact h.row.lt
theorem VRows.keep {w w' : World} {base : Nat} {E : TypeId} {G : Nat → Prop} {v : Value} {ts : List V} (h : VRows w base E G v ts) (hb : Below w.heap.size w w') : VRows w' base E G v ts := by
  obtain ⟨sls, Fs, h⟩ := h
  refine ⟨sls, Fs, ⟨h.row.kept (row := none) ⟨hb.os, hb.tape, hb.output, hb.size, fun k hk _ => hb.block k hk⟩ ?_, h.len, h.wfs, fun i hi => (h.kids i hi).keep (fun x _ hx => hb.block x hx), h.sub, h.dis, h.own, fun x hx => ⟨(h.inG x hx).1, Nat.lt_of_lt_of_le (h.inG x hx).2 hb.size⟩⟩⟩
  cases v.ownBlock <;> simp
theorem VRows.snoc {w w' : World} {base : Nat} {E : TypeId} {G F : Nat → Prop} {v v' : Value} {ts : List V} {t : V} {sl : Value} (h : VRows w base E G v ts) (ht : t.wf) (ho : OwnS w F sl t.kids)
    (hF : ∀ x, F x → base ≤ x ∧ x < w.heap.size ∧ ¬ G x ∧ v.ownBlock ≠ some x)
    (hrow : ∀ sls, w.ownsRow base E 5 v ts.length (flat ts sls) → w'.ownsRow base E 5 v' (ts.length + 1) (flat ts sls ++ flat [t] [sl])) (hg : w.grownBy w' v.ownBlock) (hfr : FreshOr w v v') :
    VRows w' base E (fun x => G x ∨ F x) v' (ts ++ [t]) := by
  obtain ⟨sls, Fs, h⟩ := h
  have hk : ∀ x, (G x ∨ F x) → x < w.heap.size → w'.heap[x]? = w.heap[x]? := by
    intro x hx hs
    refine hg.block x hs (fun e => ?_)
    rcases hx with hx | hx
    · exact h.own x e.symm hx
    · exact (hF x hx).2.2.2 e.symm
  refine ⟨sls ++ [sl], fun i => if i < ts.length then Fs i else F, ?_, by simp [h.len], ?_, ?_, ?_, ?_, ?_, ?_⟩
  · rw [flat_append _ _ _ _ h.len, List.length_append]; exact hrow sls h.row
  · intro i hi
    rw [List.length_append] at hi
    by_cases hlt : i < ts.length
    · rw [List.getElem_append_left hlt]; exact h.wfs i hlt
    · have : i = ts.length := by simp at hi; omega
      subst this; simpa using ht
  · intro i hi
    rw [List.length_append] at hi
    by_cases hlt : i < ts.length
    · have h1 := h.kids i hlt
      rw [if_pos hlt, List.getElem_append_left hlt]
      have : (sls ++ [sl]).getD i undef = sls.getD i undef := by
        rw [List.getD_eq_getElem?_getD, List.getD_eq_getElem?_getD, List.getElem?_append_left (by rw [h.len]; exact hlt)]
      rw [this]
      exact h1.keep (fun x hx hs => hk x (.inl (h.sub i hlt x hx)) hs)
    · have : i = ts.length := by simp at hi; omega
      subst this
      have e : (sls ++ [sl]).getD ts.length undef = sl := by rw [List.getD_eq_getElem?_getD, ← h.len]; simp
      rw [if_neg hlt, e]
      simpa using ho.keep (fun x hx hs => hk x (.inr hx) hs)
  · intro i hi x hx
    by_cases hlt : i < ts.length
    · simp only [if_pos hlt] at hx; exact .inl (h.sub i hlt x hx)
    · simp only [if_neg hlt] at hx; exact .inr hx
  · intro i j hij hj x hx hx'
    rw [List.length_append] at hj
    have hi : i < ts.length := by simp at hj; omega
    simp only [if_pos hi] at hx
    by_cases hlt : j < ts.length
    · simp only [if_pos hlt] at hx'; exact h.dis i j hij hlt x hx hx'
    · simp only [if_neg hlt] at hx'; exact (hF x hx').2.2.1 (h.sub i hi x hx)
  · intro g hg' hG
    rcases hfr with e | e
    · rw [e] at hg'
      rcases hG with hG | hG
      · exact h.own g hg' hG
      · exact (hF g hG).2.2.2 hg'
    · rw [e] at hg'
      simp only [Option.some.injEq] at hg'
      subst hg'
      rcases hG with hG | hG
      · have := (h.inG _ hG).2; omega
      · have := (hF _ hG).2.1; omega
  · intro x hx
    rcases hx with hx | hx
    · exact ⟨(h.inG x hx).1, Nat.lt_of_lt_of_le (h.inG x hx).2 hg.size⟩
    · exact ⟨(hF x hx).1, Nat.lt_of_lt_of_le (hF x hx).2.1 hg.size⟩
theorem flat_set : ∀ (ts : List V) (sls : List Value) (i : Nat) (t : V) (sl : Value), i < ts.length → sls.length = ts.length →
    (((((flat ts sls).set (i * 5) (.int .i64 t.k)).set (i * 5 + 1) (.int .i64 t.n)).set (i * 5 + 2) (.int .i64 t.e)).set (i * 5 + 3) (.string t.s)).set (i * 5 + 4) sl = flat (ts.set i t) (sls.set i sl)
  | [], _, i, _, _, h, _ => by simp at h
  | u :: ts, [], i, _, _, _, h => by simp at h
  | u :: ts, sm :: sls, 0, t, sl, _, _ => by simp [flat]
  | u :: ts, sm :: sls, i + 1, t, sl, h, h2 => by
    have := flat_set ts sls i t sl (by simpa using h) (by simpa using h2)
    simp only [flat, List.set_cons_succ, show (i + 1) * 5 = i * 5 + 5 by omega, show i * 5 + 5 + 1 = i * 5 + 1 + 5 by omega, show i * 5 + 5 + 2 = i * 5 + 2 + 5 by omega, show i * 5 + 5 + 3 = i * 5 + 3 + 5 by omega, show i * 5 + 5 + 4 = i * 5 + 4 + 5 by omega]
    rw [this]
def put5 (w : World) (g o : Nat) (t : V) (sl : Value) : World :=
  ((((w.setCell ⟨g, o, none⟩ (.int .i64 t.k)).setCell ⟨g, o + 1, none⟩ (.int .i64 t.n)).setCell ⟨g, o + 2, none⟩ (.int .i64 t.e)).setCell ⟨g, o + 3, none⟩ (.string t.s)).setCell ⟨g, o + 4, none⟩ sl
theorem grownBy_cell (w : World) (g o : Nat) (u : Value) : w.grownBy (w.setCell ⟨g, o, none⟩ u) (some g) :=
  ⟨rfl, rfl, rfl, by simp, fun k _ hne => heap_setCell_other w ⟨g, o, none⟩ k u (fun e => hne (by rw [e]))⟩
theorem grownBy_trans {a b c : World} {r : Option Nat} (h : a.grownBy b r) (k : b.grownBy c r) : a.grownBy c r :=
  ⟨k.os.trans h.os, k.tape.trans h.tape, k.output.trans h.output, Nat.le_trans h.size k.size, fun i hi hr => (k.block i (Nat.lt_of_lt_of_le hi h.size) hr).trans (h.block i hi hr)⟩
theorem grownBy_put5 (w : World) (g o : Nat) (t : V) (sl : Value) : w.grownBy (put5 w g o t sl) (some g) :=
  grownBy_trans (grownBy_trans (grownBy_trans (grownBy_trans (grownBy_cell _ _ _ _) (grownBy_cell _ _ _ _)) (grownBy_cell _ _ _ _)) (grownBy_cell _ _ _ _)) (grownBy_cell _ _ _ _)
theorem VRows.set {w : World} {base : Nat} {E : TypeId} {G F : Nat → Prop} {g n cap i : Nat} {ts : List V} {t : V} {sl : Value} (h : VRows w base E G (.slice (some ⟨g, 0, none⟩) n cap) ts) (hi : i < ts.length) (ht : t.wf) (ho : OwnS w F sl t.kids)
    (hF : ∀ x, F x → base ≤ x ∧ x < w.heap.size ∧ ¬ G x ∧ x ≠ g) :
    VRows (put5 w g (i * 5) t sl) base E (fun x => G x ∨ F x) (.slice (some ⟨g, 0, none⟩) n cap) (ts.set i t) := by
  obtain ⟨sls, Fs, h⟩ := h
  have hn : n = ts.length := by
    rcases h.row.2 with ⟨h', _⟩ | ⟨g', cap', cur, h', _⟩ <;> simp at h'; exact h'.2.1
  subst hn
  have hgr := grownBy_put5 w g (i * 5) t sl
  have hk : ∀ x, (G x ∨ F x) → x < w.heap.size → (put5 w g (i * 5) t sl).heap[x]? = w.heap[x]? := by
    intro x hx hs
    refine hgr.block x hs (fun e => ?_)
    simp only [Option.some.injEq] at e
    rcases hx with hx | hx
    · exact h.own x (by rw [e]; rfl) hx
    · exact (hF x hx).2.2.2 e
  refine ⟨sls.set i sl, fun j => if j = i then F else Fs j, ?_, by simp [h.len], ?_, ?_, ?_, ?_, ?_, ?_⟩
  · rw [List.length_set, ← flat_set ts sls i t sl hi h.len]
    exact ((((((h.row.stored (i * 5) (.int .i64 t.k)).1).stored (i * 5 + 1) (.int .i64 t.n)).1.stored (i * 5 + 2) (.int .i64 t.e)).1.stored (i * 5 + 3) (.string t.s)).1.stored (i * 5 + 4) sl).1
  · intro j hj
    rw [List.getElem_set]
    split
    · exact ht
    · exact h.wfs j (by simpa using hj)
  · intro j hj
    have hj' : j < ts.length := by simpa using hj
    rw [List.getElem_set]
    by_cases hji : j = i
    · subst hji
      have e : (sls.set j sl).getD j undef = sl := by rw [List.getD_eq_getElem?_getD, List.getElem?_set_self (by rw [h.len]; exact hj')]; rfl
      rw [if_pos rfl, e, if_pos rfl]
      exact ho.keep (fun x hx hs => hk x (.inr hx) hs)
    · have e : (sls.set i sl).getD j undef = sls.getD j undef := by rw [List.getD_eq_getElem?_getD, List.getD_eq_getElem?_getD, List.getElem?_set_ne (fun e => hji e.symm)]
      rw [if_neg hji, e, if_neg (fun e => hji e.symm)]
      exact (h.kids j hj').keep (fun x hx hs => hk x (.inl (h.sub j hj' x hx)) hs)
  · intro j hj x hx
    have hj' : j < ts.length := by simpa using hj
    by_cases hji : j = i
    · simp only [if_pos hji] at hx; exact .inr hx
    · simp only [if_neg hji] at hx; exact .inl (h.sub j hj' x hx)
  · intro j k hjk hk' x hx hx'
    have hk2 : k < ts.length := by simpa using hk'
    by_cases hji : j = i
    · simp only [if_pos hji] at hx
      have hki : ¬ k = i := by omega
      simp only [if_neg hki] at hx'
      exact (hF x hx).2.2.1 (h.sub k hk2 x hx')
    · simp only [if_neg hji] at hx
      by_cases hki : k = i
      · simp only [if_pos hki] at hx'
        exact (hF x hx').2.2.1 (h.sub j (by omega) x hx)
      · simp only [if_neg hki] at hx'
        exact h.dis j k hjk hk2 x hx hx'
  · intro q hq hG
    rcases hG with hG | hG
    · exact h.own q hq hG
    · simp [Value.ownBlock] at hq; exact (hF q hG).2.2.2 hq.symm
  · intro x hx
    rcases hx with hx | hx
    · exact ⟨(h.inG x hx).1, Nat.lt_of_lt_of_le (h.inG x hx).2 hgr.size⟩
    · exact ⟨(hF x hx).1, Nat.lt_of_lt_of_le (hF x hx).2.1 hgr.size⟩
def V0 : V := .mk 0 0 0 ⟨#[]⟩ []
theorem made_flat (n : Nat) : (madeCells #[.int .i64 0, .int .i64 0, .int .i64 0, .string ⟨#[]⟩, .slice none 0 0] (n * 5)).toList = flat (List.replicate n V0) (List.replicate n (.slice none 0 0)) := by
  apply List.ext_getElem?
  intro j
  by_cases hj : j < n * 5
  · have h := flat_get (List.replicate n V0) (List.replicate n (.slice none 0 0)) (j / 5) (by simp; omega) (by simp; omega)
    simp only [List.getElem_replicate] at h
    have h5 : j % 5 < 5 := Nat.mod_lt _ (by decide)
    have hm : (madeCells #[Value.int .i64 0, .int .i64 0, .int .i64 0, .string ⟨#[]⟩, .slice none 0 0] (n * 5)).toList[j]? = some ((#[Value.int .i64 0, .int .i64 0, .int .i64 0, .string ⟨#[]⟩, .slice none 0 0] : Array Value)[j % 5]'(by simpa using h5)) := by
      simp [madeCells, hj, h5]
    rw [hm]
    have hjj : j = j / 5 * 5 + j % 5 := by omega
    generalize j / 5 = q at *
    generalize hr : j % 5 = r at *
    subst hjj
    match r, h5 with
    | 0, _ => exact h.1.symm
    | 1, _ => rw [h.2.1]; rfl
    | 2, _ => rw [h.2.2.1]; rfl
    | 3, _ => rw [h.2.2.2.1]; rfl
    | 4, _ => rw [h.2.2.2.2]; rfl
  · rw [List.getElem?_eq_none (by simp [madeCells]; omega), List.getElem?_eq_none (by rw [flat_length _ _ (by simp)]; simp; omega)]
theorem VRows.made {w : World} {base : Nat} {E : TypeId} {g n cap : Nat} (h : w.ownsRow base E 5 (.slice (some ⟨g, 0, none⟩) n cap) n (madeCells #[.int .i64 0, .int .i64 0, .int .i64 0, .string ⟨#[]⟩, .slice none 0 0] (n * 5)).toList) :
    VRows w base E (fun _ => False) (.slice (some ⟨g, 0, none⟩) n cap) (List.replicate n V0) := by
  refine ⟨List.replicate n (.slice none 0 0), fun _ _ => False, ⟨by rw [← made_flat]; simpa using h, by simp, ?_, ?_, by simp, by simp, by simp, by simp⟩⟩
  · intro i hi; simp [V0, V.wf, In64, V.k, V.n, V.e, V.s, ByteArray.size]
  · intro i hi
    simp at hi
    rw [List.getD_eq_getElem?_getD, List.getElem?_eq_getElem (by simpa using hi)]
    simp [V0, V.kids]
    exact OwnS.nil _ _
theorem VRows.cells {w : World} {base : Nat} {E : TypeId} {G : Nat → Prop} {g n cap i : Nat} {ts : List V} (h : VRows w base E G (.slice (some ⟨g, 0, none⟩) n cap) ts) (hi : i < ts.length) :
    ∃ sl, Cells5 w g (i * 5) ts[i] sl ∧ ∀ o, w.frozen? ⟨g, o, none⟩ = false := by
  obtain ⟨sls, Fs, h⟩ := h
  have hi2 : i < sls.length := by rw [h.len]; exact hi
  obtain ⟨h0, h1, h2, h3, h4⟩ := flat_get ts sls i hi hi2
  have hcell : ∀ j u, (flat ts sls)[j]? = some u → w.cell? ⟨g, j, none⟩ = some u := by
    intro j u hu
    have := h.row.cells (g := g) rfl j u hu
    rwa [addr_add _ _ rfl, Nat.zero_add] at this
  have hn : n = ts.length := by
    rcases h.row.2 with ⟨h', _⟩ | ⟨g', cap', cur, h', _⟩ <;> simp at h'; exact h'.2.1
  subst hn
  exact ⟨sls[i], ⟨hcell _ _ h0, hcell _ _ h1, hcell _ _ h2, hcell _ _ h3, hcell _ _ h4⟩, fun o => h.row.frozenAt o⟩
def ValRet (w : World) (t : V) (e : Ending) (w' : World) : Prop := ∃ sl, e = .returned (t.agg sl) ∧ t.wf ∧ OwnS w' (fun x => w.heap.size ≤ x) sl t.kids ∧ Below w.heap.size w w'
def ListRet (w : World) (ts : List V) (e : Ending) (w' : World) : Prop := ∃ v, e = .returned v ∧ OwnS w' (fun x => w.heap.size ≤ x) v ts ∧ Below w.heap.size w w'
end Go.Proofs.YtppmoajoffeleaaDoor
namespace Go.Proofs.YtppmoajoffeleaaDoor
set_option linter.unusedSimpArgs false
set_option linter.unusedVariables false
set_option maxRecDepth 100000
open Go.ChangeShapes Go.WideShapes Go.ChangeAt Go.RowKit
theorem lawOwn : ownKnob Tryd.prog.godebug = none := by kernel_rfl
theorem lawLaidOut : laidOutB Tryd.prog = true := by kernel_rfl
def LawRet (w : World) (e : Ending) (w' : World) : Prop := e = .returned (.bool true) ∧ Below w.heap.size w w'
theorem trodAll_stays {H : Type} {enc : TypeId × Value → H} {W W' : World} (hb : Below W.heap.size W W') :
    ∀ (ts : List TypeId) (vs : List Value) (ds : List (DataW H)) (ps : List MemPlace), (∀ t ∈ ts, Tryd.prog.readableRec t = true ∧ t < Tryd.prog.types.size) →
      DataW.TrodAll enc Tryd.prog W 0 (fun _ => true) true ts vs ds ps → (∀ x ∈ ps, x.block < W.heap.size) →
      DataW.TrodAll enc Tryd.prog W' 0 (fun b => decide (b < W.heap.size)) true ts vs ds ps
  | [], vs, ds, ps, _, h, _ => by obtain ⟨rfl, rfl, rfl⟩ := trodAll_nil h; exact trodAll_mk0
  | t :: ts, vs, ds, ps, hr, h, hlt => by
    obtain ⟨v, vs', d, ds', p, q, rfl, rfl, rfl, h0, h1⟩ := trodAll_cons h
    have ht := hr t (List.mem_cons_self ..)
    exact trodAll_cons_mk (Below.trod lawLaidOut ht.1 ht.2 h0 hb (fun x hx => hlt x (List.mem_append_left _ hx)))
      (trodAll_stays hb ts vs' ds' q (fun t ht => hr t (List.mem_cons_of_mem _ ht)) h1 (fun x hx => hlt x (List.mem_append_right _ hx)))
theorem law_post {H : Type} {enc : TypeId × Value → H} {f : Func} {s : ChangeSpec} {W W' : World} {args : Array Value} {ds gs : List (DataW H)} {before : List MemPlace}
    (hvars : s.vars = []) (hres : f.resultTypes = #[4]) (hfn : s.fn H ds = { results := [.lit (.bool true)], args := ds })
    (hread : ∀ t ∈ f.params.toList, Tryd.prog.readableRec t = true ∧ t < Tryd.prog.types.size)
    (hW : DataW.Whole enc Tryd.prog f.params.toList s.vars false W args.toList ds gs before)
    (hb : Below W.heap.size W W') : s.post enc Tryd.prog f false true false false W args (.bool true) W' := by
  have hlt := hW.lt
  have hW0 := hW
  obtain ⟨p, q, hA, hV, rfl, hfz, hnd⟩ := hW
  rw [hvars] at hV
  obtain ⟨rfl, rfl⟩ := trodVars_none hV
  have e0 : s.fn H (ds ++ []) = { results := [.lit (.bool true)], args := ds } := by rw [List.append_nil, hfn]
  refine ⟨ds, [], p ++ [], [], p, [], hW0, ?_, ?_, ?_, hb.frame _, fun h => by cases h⟩
  · rw [e0, hres]
    exact trodAll_cons_mk (shut_bool Tryd.underlying4 _) trodAll_mk0
  · rw [e0]
    exact trodAll_stays hb _ _ _ _ hread hA (fun x hx => hlt x (List.mem_append_left _ hx))
  · rw [e0, hvars]
    exact hV
end Go.Proofs.YtppmoajoffeleaaDoor
namespace Go.Proofs.YtppmoajoffeleaaDoor
set_option linter.unusedSimpArgs false
set_option linter.unusedVariables false
set_option maxRecDepth 100000
open Go.RowKit
def Box (w : World) (b : Nat) (k n e : Int) (s : ByteArray) (sl : Value) (T : TypeId) : Prop := w.heap[b]? = some (.cells #[.int .i64 k, .int .i64 n, .int .i64 e, .string s, sl] T (0, 0))
theorem Box.cells {w : World} {b : Nat} {k n e : Int} {s : ByteArray} {sl : Value} {T : TypeId} (h : Box w b k n e s sl T) :
    w.cell? ⟨b, 0, none⟩ = some (.int .i64 k) ∧ w.cell? ⟨b, 1, none⟩ = some (.int .i64 n) ∧ w.cell? ⟨b, 2, none⟩ = some (.int .i64 e) ∧ w.cell? ⟨b, 3, none⟩ = some (.string s) ∧ w.cell? ⟨b, 4, none⟩ = some sl := by
  unfold Box at h
  refine ⟨?_, ?_, ?_, ?_, ?_⟩ <;> (rw [cell_of_row w b _ _ _ (0, 0) h]; rfl)
theorem Box.lt {w : World} {b : Nat} {k n e : Int} {s : ByteArray} {sl : Value} {T : TypeId} (h : Box w b k n e s sl T) : b < w.heap.size := lt_of_heap h
theorem Box.keep {w w' : World} {B b : Nat} {k n e : Int} {s : ByteArray} {sl : Value} {T : TypeId} (h : Box w b k n e s sl T) (hb : Below B w w') (hB : w.heap.size ≤ B) : Box w' b k n e s sl T :=
  (hb.block b (Nat.lt_of_lt_of_le h.lt hB)).trans h
theorem Box.stay {w w' : World} {b : Nat} {k n e : Int} {s : ByteArray} {sl : Value} {T : TypeId} (h : Box w b k n e s sl T) (hb : Below w.heap.size w w') : Box w' b k n e s sl T := h.keep hb (Nat.le_refl _)
theorem Box.alloc {w : World} {b : Nat} {k n e : Int} {s : ByteArray} {sl : Value} {T : TypeId} (h : Box w b k n e s sl T) (o : Obj) : Box (w.alloc o) b k n e s sl T := (heap_alloc_old w o h.lt).trans h
theorem Box.new (w : World) (k n e : Int) (s : ByteArray) (sl : Value) (T : TypeId) : Box (w.alloc (.cells #[.int .i64 k, .int .i64 n, .int .i64 e, .string s, sl] T)) w.heap.size k n e s sl T := heap_alloc_new w _
end Go.Proofs.YtppmoajoffeleaaDoor
namespace Go.Proofs.YtppmoajoffeleaaDoor
set_option linter.unusedSimpArgs false
set_option linter.unusedVariables false
set_option maxRecDepth 100000
open Go.RowKit
structure Touch (A A' : Nat → Prop) (w w' : World) : Prop where
  os : w'.os = w.os
  tape : w'.tape = w.tape
  output : w'.output = w.output
  size : w.heap.size ≤ w'.heap.size
  block : ∀ k, k < w.heap.size → ¬ A k → w'.heap[k]? = w.heap[k]?
  new : ∀ k, A' k → A k ∨ w.heap.size ≤ k
theorem Touch.trans {A A' A'' : Nat → Prop} {a b c : World} (h : Touch A A' a b) (k : Touch A' A'' b c) : Touch A A'' a c :=
  ⟨k.os.trans h.os, k.tape.trans h.tape, k.output.trans h.output, Nat.le_trans h.size k.size,
    fun i hi hn => (k.block i (Nat.lt_of_lt_of_le hi h.size) (fun e => (h.new i e).elim hn (fun e => by omega))).trans (h.block i hi hn),
    fun i hi => (k.new i hi).elim (fun e => h.new i e) (fun e => .inr (Nat.le_trans h.size e))⟩
theorem Touch.of_below {A : Nat → Prop} {w w' : World} (h : Below w.heap.size w w') : Touch A A w w' :=
  ⟨h.os, h.tape, h.output, h.size, fun k hk _ => h.block k hk, fun _ h => .inl h⟩
theorem Touch.refl (A : Nat → Prop) (w : World) : Touch A A w w := .of_below (Below.refl _ _)
theorem Touch.below {A A' : Nat → Prop} {w w' : World} {B : Nat} (h : Touch A A' w w') (hA : ∀ x, A x → B ≤ x) (hB : B ≤ w.heap.size) : Below B w w' :=
  ⟨h.os, h.tape, h.output, h.size, fun k hk => h.block k (by omega) (fun e => by have := hA k e; omega)⟩
end Go.Proofs.YtppmoajoffeleaaDoor
namespace Go.Proofs.YtppmoajoffeleaaDoor
set_option linter.unusedSimpArgs false
set_option linter.unusedVariables false
set_option maxRecDepth 100000
open Go.RowKit
theorem OwnS.form {w : World} {F : Nat → Prop} {v : Value} {ts : List V} (h : OwnS w F v ts) : ∃ a b off cap, v = .slice a ts.length cap ∧ (ts ≠ [] → a = some ⟨b, off, none⟩) ∧ ts.length ≤ cap ∧ cap ≤ 9223372036854775807 := by
  cases h with
  | mk F0 a b off cap ts0 sls Fs ha hc hm hb hF hd cells wfs kids => exact ⟨a, b, off, cap, rfl, ha, hc, hm⟩
theorem OwnS.elem {w : World} {F : Nat → Prop} {b off n cap j : Nat} {ts : List V} (h : OwnS w F (.slice (some ⟨b, off, none⟩) n cap) ts) (hj : j < ts.length) :
    F b ∧ b < w.heap.size ∧ (∀ o, w.frozen? ⟨b, o, none⟩ = false) ∧ ts[j].wf ∧ ∃ sl, Cells5 w b (off + j * 5) ts[j] sl ∧
      ∃ F' : Nat → Prop, (∀ x, F' x → F x ∧ x ≠ b) ∧ OwnS w F' sl ts[j].kids ∧ ∀ w' ks, OwnS w' F' sl ks → Touch F' F' w w' → OwnS w' F (.slice (some ⟨b, off, none⟩) n cap) (ts.set j (.mk ts[j].k ts[j].n ts[j].e ts[j].s ks)) := by
  generalize hv : Value.slice (some ⟨b, off, none⟩) n cap = v at h
  cases h with
  | mk F0 a b0 off0 cap0 ts0 sls Fs ha hc hm hb hF hd cells wfs kids =>
    have hne : ts ≠ [] := by intro e; rw [e] at hj; simp at hj
    obtain ⟨hFb, cur, E, hcur⟩ := hb hne
    have ha' := ha hne
    subst ha'
    simp only [Value.slice.injEq, Option.some.injEq, Addr.mk.injEq, and_true] at hv
    obtain ⟨⟨rfl, rfl⟩, rfl, rfl⟩ := hv
    refine ⟨hFb, lt_of_heap hcur, fun o => frozen_of_row w b o cur E hcur, wfs j hj, sls j, cells j hj, Fs j, hF j hj, kids j hj, fun w' ks ho ht => ?_⟩
    have hbb : w'.heap[b]? = w.heap[b]? := ht.block b (lt_of_heap hcur) (fun e => (hF j hj b e).2 rfl)
    have hlen : (ts.set j (.mk ts[j].k ts[j].n ts[j].e ts[j].s ks)).length = ts.length := by simp
    have := OwnS.mk (w := w') F (some ⟨b, off, none⟩) b off cap (ts.set j (.mk ts[j].k ts[j].n ts[j].e ts[j].s ks)) sls Fs (fun _ => rfl) (by rw [hlen]; exact hc) hm (fun _ => ⟨hFb, cur, E, by rw [hbb]; exact hcur⟩)
      (by rw [hlen]; exact hF) (by rw [hlen]; exact hd) ?_ ?_ ?_
    · rw [hlen] at this; exact this
    · intro i hi
      rw [hlen] at hi
      rw [List.getElem_set]
      have h1 := (cells i hi).keep hbb
      split
      · rename_i e; subst e; exact h1
      · exact h1
    · intro i hi
      rw [hlen] at hi
      rw [List.getElem_set]
      split
      · exact wfs j hj
      · exact wfs i hi
    · intro i hi
      rw [hlen] at hi
      rw [List.getElem_set]
      split
      · rename_i e; subst e; exact ho
      · rename_i e
        refine (kids i hi).keep (fun x hx hxs => ht.block x hxs (fun hx' => ?_))
        rcases Nat.lt_or_gt_of_ne e with h | h
        · exact hd j i h hi x hx' hx
        · exact hd i j h hj x hx hx'
theorem touch_cell {F : Nat → Prop} (w : World) (b o : Nat) (u : Value) (h : F b) : Touch F F w (w.setCell ⟨b, o, none⟩ u) :=
  ⟨rfl, rfl, rfl, by simp, fun k _ hn => heap_setCell_other w ⟨b, o, none⟩ k u (fun e => hn (e ▸ h)), fun _ h => .inl h⟩
theorem Touch.mono {A A' B : Nat → Prop} {w w' : World} (h : Touch A A' w w') (hA : ∀ x, A x → B x) (hA' : ∀ x, A' x → B x ∨ A x) : Touch B B w w' :=
  ⟨h.os, h.tape, h.output, h.size, fun k hk hn => h.block k hk (fun e => hn (hA k e)), fun k hk => .inl hk⟩
end Go.Proofs.YtppmoajoffeleaaDoor
namespace Go.Proofs.YtppmoajoffeleaaDoor
set_option linter.unusedSimpArgs false
set_option linter.unusedVariables false
set_option maxRecDepth 100000
open Go.RowKit Go.ChangeShapes Go.WideShapes
def RepSs (w : World) (v : Value) (l : List ByteArray) : Prop := ∃ a b off cap, v = .slice a l.length cap ∧ (l ≠ [] → a = some ⟨b, off, none⟩ ∧ b < w.heap.size) ∧ l.length ≤ cap ∧ cap ≤ 9223372036854775807 ∧
  ∀ i (h : i < l.length), w.cell? ⟨b, off + i, none⟩ = some (.string l[i]) ∧ l[i].size ≤ 9223372036854775807
theorem RepSs.keep {w w' : World} {v : Value} {l : List ByteArray} (h : RepSs w v l) (hb : Below w.heap.size w w') : RepSs w' v l := by
  obtain ⟨a, b, off, cap, hv, ha, hc, hm, hcell⟩ := h
  refine ⟨a, b, off, cap, hv, fun hne => ⟨(ha hne).1, Nat.lt_of_lt_of_le (ha hne).2 hb.size⟩, hc, hm, fun i hi => ⟨?_, (hcell i hi).2⟩⟩
  have hne : l ≠ [] := by intro e; subst e; simp at hi
  rw [World.cell?_of_block (a := ⟨b, off + i, none⟩) (hb.block b (ha hne).2)]
  exact (hcell i hi).1
def SRow (w : World) (base : Nat) (v : Value) (l : List ByteArray) : Prop := w.ownsRow base 9 1 v l.length (l.map .string) ∧ ∀ s ∈ l, s.size ≤ 9223372036854775807
theorem SRow.lt {w : World} {base : Nat} {v : Value} {l : List ByteArray} (h : SRow w base v l) : ∀ k, v.ownBlock = some k → base ≤ k ∧ k < w.heap.size := World.ownsRow.lt h.1
theorem SRow.rep {w : World} {base : Nat} {v : Value} {l : List ByteArray} (h : SRow w base v l) : RepSs w v l := by
  obtain ⟨h, hs⟩ := h
  rcases h.2 with ⟨rfl, hn⟩ | ⟨g, cap, cur, rfl, hbg, hg, hnc, hcm, hcs, htake⟩
  · obtain rfl : l = [] := List.eq_nil_of_length_eq_zero hn
    exact ⟨none, 0, 0, 0, rfl, by simp, by simp, by omega, by simp⟩
  · refine ⟨some ⟨g, 0, none⟩, g, 0, cap, rfl, fun _ => ⟨rfl, by have := World.ownsRow.lt h g rfl; exact this.2⟩, hnc, by simpa [maxLen] using hcm, fun i hi => ⟨?_, hs _ (List.getElem_mem hi)⟩⟩
    have := h.cells (g := g) rfl i (.string l[i]) (by simp [List.getElem?_eq_getElem hi])
    rwa [addr_add _ _ rfl] at this
theorem SRow.slice {w : World} {base : Nat} {v : Value} {l : List ByteArray} (h : SRow w base v l) : ∃ a cap, v = .slice a l.length cap := by
  rcases h.1.2 with ⟨rfl, hn⟩ | ⟨g, cap, cur, hv, _⟩
  · exact ⟨none, 0, by rw [hn]⟩
  · exact ⟨_, _, hv⟩
theorem SRow.slice3 {w : World} {base : Nat} {v : Value} {l : List ByteArray} (h : SRow w base v l) : ∃ a n cap, v = .slice a n cap := by
  obtain ⟨a, cap, e⟩ := h.slice; exact ⟨a, _, cap, e⟩
theorem SRow.nil (w : World) (base : Nat) : SRow w base (.slice none 0 0) [] := ⟨World.ownsRow_nil w base _ 1, by simp⟩
theorem SRow.made0 {w : World} {base : Nat} (hb : base ≤ w.heap.size) : SRow (w.alloc (.cells #[] 9)) base (.slice (some ⟨w.heap.size, 0, none⟩) 0 0) [] :=
  ⟨World.ownsRow_lit (w := w) #[] 0 hb (by simp [maxLen]) rfl, by simp⟩
theorem SRow.keep {w w' : World} {base : Nat} {v : Value} {l : List ByteArray} (h : SRow w base v l) (hk : ∀ x, v.ownBlock = some x → w'.heap[x]? = w.heap[x]?) : SRow w' base v l := by
  obtain ⟨⟨h1, h2⟩, hs⟩ := h
  refine ⟨⟨h1, ?_⟩, hs⟩
  rcases h2 with h2 | ⟨g, cap, cur, rfl, hbg, hg, r⟩
  · exact .inl h2
  · exact .inr ⟨g, cap, cur, rfl, hbg, by rw [hk g rfl]; exact hg, r⟩
theorem SRow.set {w : World} {base g n cap i : Nat} {l : List ByteArray} {s : ByteArray} (h : SRow w base (.slice (some ⟨g, 0, none⟩) n cap) l) (hs : s.size ≤ 9223372036854775807) :
    SRow (w.setCell ⟨g, i, none⟩ (.string s)) base (.slice (some ⟨g, 0, none⟩) n cap) (l.set i s) := by
  have hn : n = l.length := by
    rcases h.1.2 with ⟨h', _⟩ | ⟨g', cap', cur, h', _⟩ <;> simp at h'; exact h'.2.1
  subst hn
  refine ⟨?_, fun x hx => ?_⟩
  · have := (h.1.stored i (.string s)).1
    rw [List.length_set]
    rw [← List.map_set] at this
    exact this
  · rcases List.mem_or_eq_of_mem_set hx with h1 | h1
    · exact h.2 x h1
    · rw [h1]; exact hs
theorem SRow.cells {w : World} {base g n cap i : Nat} {l : List ByteArray} (h : SRow w base (.slice (some ⟨g, 0, none⟩) n cap) l) (hi : i < l.length) :
    w.cell? ⟨g, i, none⟩ = some (.string l[i]) ∧ w.frozen? ⟨g, i, none⟩ = false := by
  have hn : n = l.length := by
    rcases h.1.2 with ⟨h', _⟩ | ⟨g', cap', cur, h', _⟩ <;> simp at h'; exact h'.2.1
  subst hn
  refine ⟨?_, h.1.frozenAt i⟩
  have := h.1.cells (g := g) rfl i (.string l[i]) (by simp [List.getElem?_eq_getElem hi])
  rwa [addr_add _ _ rfl, Nat.zero_add] at this
theorem SRow.made {w : World} {base g n cap : Nat} (h : w.ownsRow base 9 1 (.slice (some ⟨g, 0, none⟩) n cap) n (madeCells #[.string ⟨#[]⟩] (n * 1)).toList) :
    SRow w base (.slice (some ⟨g, 0, none⟩) n cap) (List.replicate n ⟨#[]⟩) := by
  refine ⟨?_, fun s hs => ?_⟩
  · rw [toList_madeCells_one, Nat.mul_one] at h
    simpa using h
  · rw [(List.mem_replicate.1 hs).2]; simp [ByteArray.size]
section
variable {w : World} {ops : Array Oper} {rest : List Oper} {o : Oper} {a : Act} {Q : Exit → Act → World → Prop}
end
end Go.Proofs.YtppmoajoffeleaaDoor
namespace Go.Proofs.YtppmoajoffeleaaDoor
set_option linter.unusedSimpArgs false
set_option linter.unusedVariables false
set_option maxRecDepth 100000
open Go.RowKit
theorem SRow.form {w : World} {base : Nat} {v : Value} {l : List ByteArray} (h : SRow w base v l) : ∃ a cap, v = .slice a l.length cap ∧ l.length ≤ cap ∧ cap ≤ 9223372036854775807 ∧ (l ≠ [] → ∃ g, a = some ⟨g, 0, none⟩ ∧ base ≤ g) := by
  rcases h.1.2 with ⟨rfl, hn⟩ | ⟨g, cap, cur, hv, hb, hg, hnc, hcm, _⟩
  · exact ⟨none, 0, by rw [hn], by omega, by omega, fun e => absurd (List.eq_nil_of_length_eq_zero hn) e⟩
  · exact ⟨_, _, hv, hnc, by simpa [maxLen] using hcm, fun _ => ⟨g, rfl, hb⟩⟩
end Go.Proofs.YtppmoajoffeleaaDoor
namespace Go.Proofs.YtppmoajoffeleaaDoor
set_option linter.unusedSimpArgs false
set_option linter.unusedVariables false
set_option maxRecDepth 100000
open Go.RowKit
theorem RepS.opened {w : World} {v : Value} {ts : List V} (h : RepS w v ts) : ∃ a b off cap, v = .slice a ts.length cap ∧ (ts ≠ [] → a = some ⟨b, off, none⟩ ∧ b < w.heap.size) ∧ ts.length ≤ cap ∧ cap ≤ 9223372036854775807 ∧
    ∃ sls : Nat → Value, ∀ i (h : i < ts.length), Cells5 w b (off + i * 5) ts[i] (sls i) ∧ ts[i].wf ∧ RepS w (sls i) ts[i].kids := by
  cases h with
  | mk a b off cap ts0 sls ha hc hm hbb cells wfs kids => exact ⟨a, b, off, cap, rfl, fun hne => ⟨ha hne, hbb hne⟩, hc, hm, sls, fun i hi => ⟨cells i hi, wfs i hi, kids i hi⟩⟩
end Go.Proofs.YtppmoajoffeleaaDoor
namespace Go.Proofs.YtppmoajoffeleaaDoor
set_option linter.unusedSimpArgs false
set_option linter.unusedVariables false
set_option maxRecDepth 100000
open Go.RowKit
def BoolRet (b : Bool) (w : World) (e : Ending) (w' : World) : Prop := e = .returned (.bool b) ∧ Below w.heap.size w w'
theorem V.ext_iff (t u : V) : t = u ↔ t.k = u.k ∧ t.n = u.n ∧ t.e = u.e ∧ t.s = u.s ∧ t.kids = u.kids := by
  cases t; cases u
  simp [V.k, V.n, V.e, V.s, V.kids]
set_option maxHeartbeats 1000000 in
theorem same_value (t u : V) (sl sm : Value) (w : World)
    (ih : ∀ (w' : World), Below w.heap.size w w' → Calls Tryd.prog 80 #[sl, sm, .func (.func 48) #[] #[]] w' (BoolRet (decide (t.kids = u.kids)) w')) :
    Calls Tryd.prog 48 #[t.agg sl, u.agg sm] w (BoolRet (decide (t = u)) w) := by
  have hpost : ∃ b : Bool, b = decide (t = u) := ⟨_, rfl⟩
  obtain ⟨b, hb⟩ := hpost
  rw [← hb]
  have HB := Lib.hid (show b = decide (t.k = u.k ∧ t.n = u.n ∧ t.e = u.e ∧ t.s = u.s ∧ t.kids = u.kids) by rw [hb]; simp only [V.ext_iff])
  clear hb
  have IH := Lib.hid ih; clear ih
  unfold V.agg
  generalize t.kids = tk at *
  generalize u.kids = uk at *
  generalize t.k = k at *
  generalize t.n = n at *
  generalize t.e = e at *
  generalize t.s = s at *
  generalize u.k = k2 at *
  generalize u.n = n2 at *
  generalize u.e = e2 at *
  generalize u.s = s2 at *
  by_cases h1 : k = k2
  case neg =>
    have H := Lib.hid (show b = false by rw [HB.out, decide_eq_false (fun h => h1 h.1)])
    have t1 : (k == k2) = false := by simpa using h1
    clear h1 IH HB
    go_enter Tryd.func48, Tryd.ntmps48
    go_wp2_with fail
    go_ret
    exact ⟨by rw [H.out]; rfl, (by (repeat' (first | with_reducible exact Below.refl _ _ | with_reducible refine below_alloc ?_ _ ?_ | with_reducible refine Below.setCell ?_ ?_ _ | with_reducible refine Below.drew ?_ | with_reducible refine below_drewN ?_ _ | with_reducible refine below_step ?_ (by assumption) ?_ | with_reducible refine below_mark ?_ (by assumption) ?_)); all_goals (first | omega | (simp; done) | (simp; omega)))⟩
  have t1 : (k == k2) = true := by simpa using h1
  by_cases h2 : n = n2
  case neg =>
    have H := Lib.hid (show b = false by rw [HB.out, decide_eq_false (fun h => h2 h.2.1)])
    have t2 : (n == n2) = false := by simpa using h2
    clear h1 h2 IH HB
    go_enter Tryd.func48, Tryd.ntmps48
    go_wp2_with fail
    go_ret
    exact ⟨by rw [H.out]; rfl, (by (repeat' (first | with_reducible exact Below.refl _ _ | with_reducible refine below_alloc ?_ _ ?_ | with_reducible refine Below.setCell ?_ ?_ _ | with_reducible refine Below.drew ?_ | with_reducible refine below_drewN ?_ _ | with_reducible refine below_step ?_ (by assumption) ?_ | with_reducible refine below_mark ?_ (by assumption) ?_)); all_goals (first | omega | (simp; done) | (simp; omega)))⟩
  have t2 : (n == n2) = true := by simpa using h2
  by_cases h3 : e = e2
  case neg =>
    have H := Lib.hid (show b = false by rw [HB.out, decide_eq_false (fun h => h3 h.2.2.1)])
    have t3 : (e == e2) = false := by simpa using h3
    clear h1 h2 h3 IH HB
    go_enter Tryd.func48, Tryd.ntmps48
    go_wp2_with fail
    go_ret
    exact ⟨by rw [H.out]; rfl, (by (repeat' (first | with_reducible exact Below.refl _ _ | with_reducible refine below_alloc ?_ _ ?_ | with_reducible refine Below.setCell ?_ ?_ _ | with_reducible refine Below.drew ?_ | with_reducible refine below_drewN ?_ _ | with_reducible refine below_step ?_ (by assumption) ?_ | with_reducible refine below_mark ?_ (by assumption) ?_)); all_goals (first | omega | (simp; done) | (simp; omega)))⟩
  have t3 : (e == e2) = true := by simpa using h3
  by_cases h4 : s = s2
  case neg =>
    have H := Lib.hid (show b = false by rw [HB.out, decide_eq_false (fun h => h4 h.2.2.2.1)])
    have t4 := ba_no h4
    clear h1 h2 h3 h4 IH HB
    go_enter Tryd.func48, Tryd.ntmps48
    go_wp2_with fail
    go_ret
    exact ⟨by rw [H.out]; rfl, (by (repeat' (first | with_reducible exact Below.refl _ _ | with_reducible refine below_alloc ?_ _ ?_ | with_reducible refine Below.setCell ?_ ?_ _ | with_reducible refine Below.drew ?_ | with_reducible refine below_drewN ?_ _ | with_reducible refine below_step ?_ (by assumption) ?_ | with_reducible refine below_mark ?_ (by assumption) ?_)); all_goals (first | omega | (simp; done) | (simp; omega)))⟩
  have t4 := ba_yes h4
  have H := Lib.hid (show b = decide (tk = uk) by rw [HB.out]; simp [h1, h2, h3, h4])
  clear h1 h2 h3 h4 HB
  go_enter Tryd.func48, Tryd.ntmps48
  go_wp2_with fail
  refine (IH.out _ (by (repeat' (first | with_reducible exact Below.refl _ _ | with_reducible refine below_alloc ?_ _ ?_ | with_reducible refine Below.setCell ?_ ?_ _ | with_reducible refine Below.drew ?_ | with_reducible refine below_drewN ?_ _ | with_reducible refine below_step ?_ (by assumption) ?_ | with_reducible refine below_mark ?_ (by assumption) ?_)); all_goals (first | omega | (simp; done) | (simp; omega)))).mono ?_
  rintro x w1 ⟨rfl, hb1⟩
  rw [← H.out]
  go_wp2_with fail
  go_ret
  exact ⟨rfl, (by (repeat' (first | with_reducible exact Below.refl _ _ | with_reducible refine below_alloc ?_ _ ?_ | with_reducible refine Below.setCell ?_ ?_ _ | with_reducible refine Below.drew ?_ | with_reducible refine below_drewN ?_ _ | with_reducible refine below_step ?_ (by assumption) ?_ | with_reducible refine below_mark ?_ (by assumption) ?_)); all_goals (first | omega | (simp; done) | (simp; omega)))⟩
set_option maxHeartbeats 1000000 in
theorem same_list (w0 : World) (v : Value) (ts : List V) (h : RepS w0 v ts) : ∀ (u : Value) (us : List V), RepS w0 u us → ∀ (w : World), Below w0.heap.size w0 w →
    Calls Tryd.prog 80 #[v, u, .func (.func 48) #[] #[]] w (BoolRet (decide (ts = us)) w) := by
  induction h with
  | mk a b off cap ts sls ha hc hm hbb cells wfs kids ih =>
  intro u us hu w hw
  obtain ⟨a2, b2, off2, cap2, rfl, ha2, hc2, hm2, sls2, hel⟩ := hu.opened
  have HP := Lib.hid (show ∃ b : Bool, b = decide (ts = us) from ⟨_, rfl⟩)
  by_cases hlen : ts.length = us.length
  case neg =>
    have H := Lib.hid (show decide (ts = us) = false from decide_eq_false (fun e => hlen (by rw [e])))
    have t1 : ((ts.length : Int) != us.length) = true := by simp; omega
    rw [H.out]
    clear ih cells wfs kids hel hlen HP
    go_enter Tryd.func80, Tryd.ntmps80
    go_wp2_with fail
    go_ret
    exact ⟨rfl, (by (repeat' (first | with_reducible exact Below.refl _ _ | with_reducible refine below_alloc ?_ _ ?_ | with_reducible refine Below.setCell ?_ ?_ _ | with_reducible refine Below.drew ?_ | with_reducible refine below_drewN ?_ _ | with_reducible refine below_step ?_ (by assumption) ?_ | with_reducible refine below_mark ?_ (by assumption) ?_)); all_goals (first | omega | (simp; done) | (simp; omega)))⟩
  have HLEN := Lib.hid hlen
  have IH := Lib.hid ih; have CC := Lib.hid cells; have WF := Lib.hid wfs; have HA := Lib.hid ha; have HA2 := Lib.hid ha2; have HE := Lib.hid hel; have KK := Lib.hid kids
  have hl63 : ts.length ≤ 9223372036854775807 := by omega
  obtain ⟨bb, hbbe⟩ := HP.out
  rw [← hbbe]
  have HB := Lib.hid hbbe
  clear ih cells wfs kids ha ha2 hel hc hm hc2 hm2 HP hbbe
  rw [← hlen]
  clear hlen
  go_enter Tryd.func80, Tryd.ntmps80
  go_wp2_with fail
  go_loopw [17] (fun i wr => ∃ k : Nat, k ≤ ts.length ∧ i = .int .i64 k ∧ Hid (ts.take k = us.take k) ∧ Below w.heap.size w wr) (fun i _ => ts.length - (intOf i).toNat)
  case atStart => exact ⟨0, by omega, rfl, Lib.hid (by simp), Below.refl _ _⟩
  case round =>
    obtain ⟨k, hk, rfl, HT, hbl⟩ := hrel
    by_cases hlt : k < ts.length
    · have hlt2 : k < us.length := by rw [← HLEN.out]; exact hlt
      have hne : ts ≠ [] := by intro e; rw [e] at hlt; simp at hlt
      have hne2 : us ≠ [] := by intro e; rw [e] at hlt2; simp at hlt2
      obtain rfl := HA.out hne
      obtain ⟨rfl, hbw2⟩ := HA2.out hne2
      have hbw := hbb hne
      have HWR := Lib.hid (hw.trans (hbl.mono hw.size))
      have hzr := HWR.out.size
      obtain ⟨c0, c1, c2, c3, c4⟩ := (CC.out k hlt).keep (HWR.out.block b hbw)
      obtain ⟨d0, d1, d2, d3, d4⟩ := (HE.out k hlt2).1.keep (HWR.out.block b2 hbw2)
      have S1 := Lib.hid (fun (W : World) (hW : Below wr.heap.size wr W) => same_value ts[k] us[k] (sls k) (sls2 k) W (fun w' hb' => IH.out k hlt (sls2 k) us[k].kids (HE.out k hlt2).2.2 w' (HWR.out.trans ((hW.trans (hb'.mono hW.size)).mono hzr))))
      have HS := Lib.hid (show ts.take (k + 1) = ts.take k ++ [ts[k]] ∧ us.take (k + 1) = us.take k ++ [us[k]] from ⟨List.take_succ_eq_append_getElem hlt, List.take_succ_eq_append_getElem hlt2⟩)
      obtain ⟨a3, cap3, hs3⟩ := (KK.out k hlt).slice
      obtain ⟨a4, cap4, hs4⟩ := (HE.out k hlt2).2.2.slice
      rw [hs3] at c4 S1
      rw [hs4] at d4 S1
      unfold V.agg at S1
      clear hs3 hs4
      have hbr : b < wr.heap.size := Nat.lt_of_lt_of_le hbw hzr
      have hbr2 : b2 < wr.heap.size := Nat.lt_of_lt_of_le hbw2 hzr
      have hbn : b2 ≠ wr.heap.size := by omega
      have hbn' : wr.heap.size ≠ b2 := by omega
      by_cases heq : ts[k] = us[k]
      · rw [decide_eq_true heq] at S1
        have HX := Lib.hid (show ts.take (k + 1) = us.take (k + 1) by rw [HS.out.1, HS.out.2, HT.out, heq])
        clear heq HS HT
        go_wp2_with fail
        refine (S1.out _ (by (repeat' (first | with_reducible exact Below.refl _ _ | with_reducible refine below_alloc ?_ _ ?_ | with_reducible refine Below.setCell ?_ ?_ _ | with_reducible refine Below.drew ?_ | with_reducible refine below_drewN ?_ _ | with_reducible refine below_step ?_ (by assumption) ?_ | with_reducible refine below_mark ?_ (by assumption) ?_)); all_goals (first | omega | (simp; done) | (simp; omega)))).mono ?_
        rintro e1 w1 ⟨rfl, hb1⟩
        go_wp2_with fail
        go_roundw
        case rel => exact ⟨k + 1, by omega, by go_num, HX, (by (repeat' (first | with_reducible exact Below.refl _ _ | with_reducible refine below_alloc ?_ _ ?_ | with_reducible refine Below.setCell ?_ ?_ _ | with_reducible refine Below.drew ?_ | with_reducible refine below_drewN ?_ _ | with_reducible refine below_step ?_ (by assumption) ?_ | with_reducible refine below_mark ?_ (by assumption) ?_)); all_goals (first | omega | (simp; done) | (simp; omega)))⟩
        case measure => simp [intOf]; omega
      · rw [decide_eq_false heq] at S1
        have HX := Lib.hid (show bb = false by
          rw [HB.out]
          exact decide_eq_false (fun e => heq (by subst e; rfl)))
        clear heq HS HT
        go_wp2_with fail
        refine (S1.out _ (by (repeat' (first | with_reducible exact Below.refl _ _ | with_reducible refine below_alloc ?_ _ ?_ | with_reducible refine Below.setCell ?_ ?_ _ | with_reducible refine Below.drew ?_ | with_reducible refine below_drewN ?_ _ | with_reducible refine below_step ?_ (by assumption) ?_ | with_reducible refine below_mark ?_ (by assumption) ?_)); all_goals (first | omega | (simp; done) | (simp; omega)))).mono ?_
        rintro e1 w1 ⟨rfl, hb1⟩
        go_wp2_with fail
        go_ret
        exact ⟨by rw [HX.out]; rfl, (by (repeat' (first | with_reducible exact Below.refl _ _ | with_reducible refine below_alloc ?_ _ ?_ | with_reducible refine Below.setCell ?_ ?_ _ | with_reducible refine Below.drew ?_ | with_reducible refine below_drewN ?_ _ | with_reducible refine below_step ?_ (by assumption) ?_ | with_reducible refine below_mark ?_ (by assumption) ?_)); all_goals (first | omega | (simp; done) | (simp; omega)))⟩
    · have HX := Lib.hid (show bb = true by
        rw [HB.out]
        have h1 := HT.out
        rw [List.take_of_length_le (by omega), List.take_of_length_le (by rw [← HLEN.out]; omega)] at h1
        exact decide_eq_true h1)
      go_wp2_with fail
      go_ret
      exact ⟨by rw [HX.out]; rfl, hbl⟩
theorem same_any (w0 : World) (v u : Value) (t x : V) (h : Rep w0 v t) (h2 : Rep w0 u x) (w : World) (hw : Below w0.heap.size w0 w) : Calls Tryd.prog 48 #[v, u] w (BoolRet (decide (t = x)) w) := by
  obtain ⟨sl, rfl, _, hr⟩ := h
  obtain ⟨sm, rfl, _, hr2⟩ := h2
  exact same_value t x sl sm w (fun w' hb => same_list w0 sl t.kids hr sm x.kids hr2 w' (below_step hw hb (by have := hw.size; omega)))
end Go.Proofs.YtppmoajoffeleaaDoor
namespace Go.Proofs.YtppmoajoffeleaaDoor
set_option linter.unusedSimpArgs false
set_option linter.unusedVariables false
set_option maxRecDepth 100000
open Go.RowKit
theorem l01In_yes (n lo hi : Int) (w : World) (h1 : lo ≤ n) (h2 : n ≤ hi) :
    Calls Tryd.prog 57 #[.int .i64 n, .int .i64 lo, .int .i64 hi] w fun e w' => e = .returned (.bool true) ∧ w' = w := by
  go_enter Tryd.func57, Tryd.ntmps57
  go_wp2
  go_ret
  exact ⟨rfl, rfl⟩
theorem l01In_no (n lo hi : Int) (w : World) (h : n < lo ∨ hi < n) :
    Calls Tryd.prog 57 #[.int .i64 n, .int .i64 lo, .int .i64 hi] w fun e w' => e = .returned (.bool false) ∧ w' = w := by
  by_cases h1 : lo ≤ n
  · have h2 : ¬ n ≤ hi := by omega
    clear h
    go_enter Tryd.func57, Tryd.ntmps57
    go_wp2
    go_ret
    exact ⟨rfl, rfl⟩
  · clear h
    go_enter Tryd.func57, Tryd.ntmps57
    go_wp2
    go_ret
    exact ⟨rfl, rfl⟩
theorem within_yes (n lo hi : Int) (w : World) (h1 : lo ≤ n) (h2 : n ≤ hi) :
    Calls Tryd.prog 59 #[.int .i64 n, .int .i64 lo, .int .i64 hi] w fun e w' => e = .returned (.bool true) ∧ w' = w := by
  go_enter Tryd.func59, Tryd.ntmps59
  go_wp2
  go_ret
  exact ⟨rfl, rfl⟩
theorem within_no (n lo hi : Int) (w : World) (h : n < lo ∨ hi < n) :
    Calls Tryd.prog 59 #[.int .i64 n, .int .i64 lo, .int .i64 hi] w fun e w' => e = .returned (.bool false) ∧ w' = w := by
  by_cases h1 : lo ≤ n
  · have h2 : ¬ n ≤ hi := by omega
    clear h
    go_enter Tryd.func59, Tryd.ntmps59
    go_wp2
    go_ret
    exact ⟨rfl, rfl⟩
  · clear h
    go_enter Tryd.func59, Tryd.ntmps59
    go_wp2
    go_ret
    exact ⟨rfl, rfl⟩
end Go.Proofs.YtppmoajoffeleaaDoor
namespace Go.Proofs.YtppmoajoffeleaaDoor
set_option linter.unusedSimpArgs false
set_option linter.unusedVariables false
set_option maxRecDepth 100000
open Go.RowKit
theorem fits10_zero : ∀ k, fits10 0 k = some 0
  | 0 => rfl
  | k + 1 => by rw [fits10, if_pos (by omega)]; simpa using fits10_zero k
theorem fits10_step (n e : Int) (he : 0 < e) : fits10 n e.toNat = if -9223372036854775808 ≤ n * 10 ∧ n * 10 ≤ 9223372036854775807 then fits10 (n * 10) (e - 1).toNat else none := by
  obtain ⟨k, hk⟩ : ∃ k : Nat, e.toNat = k + 1 := ⟨e.toNat - 1, by omega⟩
  rw [hk, show (e - 1).toNat = k by omega]; rfl
def fitV (o : Option Int) : Int := o.getD 0
def FitRet (o : Option Int) (w : World) (e : Ending) (w' : World) : Prop := e = .returned (.tuple #[.int .i64 (fitV o), .bool o.isSome]) ∧ w' = w
set_option maxHeartbeats 400000 in
theorem fits_any (n e : Int) (hn : In64 n) (he : In64 e) (w : World) : Calls Tryd.prog 121 #[.int .i64 n, .int .i64 e] w (FitRet (fits10 n e.toNat) w) := by
  obtain ⟨hn0, hn1⟩ := hn
  obtain ⟨he0, he1⟩ := he
  generalize hG : fits10 n e.toNat = G
  have HG := Lib.hid hG; clear hG
  go_enter Tryd.func121, Tryd.ntmps121
  go_wp2_with fail
  go_loop [0, 1] (fun a b => ∃ x y : Int, a = .int .i64 x ∧ b = .int .i64 y ∧ -9223372036854775808 ≤ x ∧ x ≤ 9223372036854775807 ∧ -9223372036854775808 ≤ y ∧ y ≤ 9223372036854775807 ∧ Hid (G = fits10 x y.toNat)) (fun _ b => (intOf b).toNat)
  case atStart => exact ⟨n, e, rfl, rfl, hn0, hn1, he0, he1, Lib.hid HG.out.symm⟩
  case round =>
    obtain ⟨x, y, rfl, rfl, hx0, hx1, hy0, hy1, HX⟩ := hrel
    by_cases hy : 0 < y
    · have HS := Lib.hid (fits10_step x y hy)
      by_cases hx : x = 0
      · have H := Lib.hid (show G = some 0 by rw [HX.out, hx, fits10_zero])
        have t1 : (x != 0) = false := by simpa using hx
        clear HS
        go_wp2_with fail
        go_ret2
        exact ⟨by rw [H.out]; simp [fitV], rfl⟩
      · have t1 : (x != 0) = true := by simpa using hx
        have t2 : (x == 0) = false := by simpa using hx
        clear hx
        by_cases h1 : 922337203685477580 < x
        · have H := Lib.hid (show G = none by rw [HX.out, HS.out, if_neg (by omega)])
          clear HS
          go_wp2_with fail
          go_ret2
          exact ⟨by rw [H.out]; rfl, rfl⟩
        · by_cases h2 : x < -922337203685477580
          · have H := Lib.hid (show G = none by rw [HX.out, HS.out, if_neg (by omega)])
            clear HS
            go_wp2_with fail
            go_ret2
            exact ⟨by rw [H.out]; rfl, rfl⟩
          · have H := Lib.hid (show G = fits10 (x * 10) (y - 1).toNat by rw [HX.out, HS.out, if_pos (by omega)])
            have m0 : -9223372036854775808 ≤ x * 10 := by omega
            have m1 : x * 10 ≤ 9223372036854775807 := by omega
            clear HS
            go_wp2_with fail
            go_round
            case rel => exact ⟨x * 10, y - 1, rfl, rfl, m0, m1, by omega, by omega, H⟩
            case measure => simp [intOf]; omega
    · have H := Lib.hid (show G = some x by rw [HX.out, show y.toNat = 0 by omega]; rfl)
      go_wp2_with fail
      go_ret2
      exact ⟨by rw [H.out]; rfl, rfl⟩
set_option maxHeartbeats 400000 in
theorem isKey_any (k n e : Int) (s : ByteArray) (sl : Value) (w : World) : Calls Tryd.prog 99 #[.agg #[.int .i64 k, .int .i64 n, .int .i64 e, .string s, sl]] w
    fun x w' => x = .returned (.bool (decide (k = 5 ∨ k = 3))) ∧ Below w.heap.size w w' := by
  have hpost : ∃ b : Bool, b = decide (k = 5 ∨ k = 3) := ⟨_, rfl⟩
  obtain ⟨b, hb⟩ := hpost
  rw [← hb]
  have HB := Lib.hid hb; clear hb
  by_cases h5 : k = 5
  · have H := Lib.hid (show b = true by rw [HB.out]; simp [h5])
    have t1 : (k == 5) = true := by simpa using h5
    clear h5
    go_enter Tryd.func99, Tryd.ntmps99
    go_wp2_with fail
    go_ret
    exact ⟨by rw [H.out]; rfl, (by (repeat' (first | with_reducible exact Below.refl _ _ | with_reducible refine below_alloc ?_ _ ?_ | with_reducible refine Below.setCell ?_ ?_ _ | with_reducible refine Below.drew ?_ | with_reducible refine below_drewN ?_ _ | with_reducible refine below_step ?_ (by assumption) ?_ | with_reducible refine below_mark ?_ (by assumption) ?_)); all_goals (first | omega | (simp; done) | (simp; omega)))⟩
  · have t1 : (k == 5) = false := by simpa using h5
    by_cases h6 : k = 3
    · have H := Lib.hid (show b = true by rw [HB.out]; simp [h6])
      have t2 : (k == 3) = true := by simpa using h6
      clear h5 h6
      go_enter Tryd.func99, Tryd.ntmps99
      go_wp2_with fail
      go_ret
      exact ⟨by rw [H.out]; rfl, (by (repeat' (first | with_reducible exact Below.refl _ _ | with_reducible refine below_alloc ?_ _ ?_ | with_reducible refine Below.setCell ?_ ?_ _ | with_reducible refine Below.drew ?_ | with_reducible refine below_drewN ?_ _ | with_reducible refine below_step ?_ (by assumption) ?_ | with_reducible refine below_mark ?_ (by assumption) ?_)); all_goals (first | omega | (simp; done) | (simp; omega)))⟩
    · have H := Lib.hid (show b = false by rw [HB.out]; simp [h5, h6])
      have t2 : (k == 3) = false := by simpa using h6
      clear h5 h6
      go_enter Tryd.func99, Tryd.ntmps99
      go_wp2_with fail
      go_ret
      exact ⟨by rw [H.out]; rfl, (by (repeat' (first | with_reducible exact Below.refl _ _ | with_reducible refine below_alloc ?_ _ ?_ | with_reducible refine Below.setCell ?_ ?_ _ | with_reducible refine Below.drew ?_ | with_reducible refine below_drewN ?_ _ | with_reducible refine below_step ?_ (by assumption) ?_ | with_reducible refine below_mark ?_ (by assumption) ?_)); all_goals (first | omega | (simp; done) | (simp; omega)))⟩
theorem decOk_eq (n e : Int) : decOk n e = (decide (n.tmod 10 ≠ 0) && decide (-999999999999999999 ≤ n ∧ n ≤ 999999999999999999) && decide (-20 ≤ e ∧ e ≤ 20) && decide (e ≠ 0) && !(decide (0 < e) && (fits10 n e.toNat).isSome)) := by
  unfold decOk
  congr 1
  rw [Bool.eq_iff_iff]
  simp only [Bool.and_eq_true, decide_eq_true_eq]
  constructor
  · rintro ⟨a, b, c, d, f, g⟩; exact ⟨⟨⟨a, b, c⟩, d, f⟩, g⟩
  · rintro ⟨⟨⟨a, b, c⟩, d, f⟩, g⟩; exact ⟨a, b, c, d, f, g⟩
set_option maxHeartbeats 1000000 in
theorem isDec_any (k n e : Int) (s : ByteArray) (sl : Value) (hn : In64 n) (he : In64 e) (w : World) : Calls Tryd.prog 97 #[.agg #[.int .i64 k, .int .i64 n, .int .i64 e, .string s, sl]] w
    fun x w' => x = .returned (.bool (decOk n e)) ∧ Below w.heap.size w w' := by
  have hpost : ∃ b : Bool, b = decOk n e := ⟨_, rfl⟩
  obtain ⟨b, hb⟩ := hpost
  rw [← hb]
  rw [decOk_eq] at hb
  have HB := Lib.hid hb; clear hb
  have FT := Lib.hid (fun W => fits_any n e hn he W)
  obtain ⟨hn0, hn1⟩ := hn
  obtain ⟨he0, he1⟩ := he
  by_cases c1 : -20 ≤ e ∧ e ≤ 20
  · have W1 := Lib.hid (fun W => within_yes e (-20) 20 W c1.1 c1.2)
    obtain ⟨c10, c11⟩ := c1
    by_cases c2 : e = 0
    · have H := Lib.hid (show b = false by rw [HB.out]; simp [c2])
      have t1 : (e == 0) = true := by simpa using c2
      clear c2 FT
      go_enter Tryd.func97, Tryd.ntmps97
      go_wp2_with fail
      refine (W1.out _).mono ?_
      rintro x w1 ⟨rfl, rfl⟩
      go_wp2_with fail
      go_ret
      exact ⟨by rw [H.out]; rfl, (by (repeat' (first | with_reducible exact Below.refl _ _ | with_reducible refine below_alloc ?_ _ ?_ | with_reducible refine Below.setCell ?_ ?_ _ | with_reducible refine Below.drew ?_ | with_reducible refine below_drewN ?_ _ | with_reducible refine below_step ?_ (by assumption) ?_ | with_reducible refine below_mark ?_ (by assumption) ?_)); all_goals (first | omega | (simp; done) | (simp; omega)))⟩
    · have t1 : (e == 0) = false := by simpa using c2
      by_cases c3 : -999999999999999999 ≤ n ∧ n ≤ 999999999999999999
      · have W2 := Lib.hid (fun W => within_yes n (-999999999999999999) 999999999999999999 W c3.1 c3.2)
        by_cases c4 : n.tmod 10 = 0
        · have H := Lib.hid (show b = false by rw [HB.out]; simp [c4])
          have t2 : (n.tmod 10 == 0) = true := by simpa using c4
          clear c2 c3 c4 FT
          go_enter Tryd.func97, Tryd.ntmps97
          go_wp2_with fail
          refine (W1.out _).mono ?_
          rintro x w1 ⟨rfl, rfl⟩
          go_wp2_with fail
          refine (W2.out _).mono ?_
          rintro x w2 ⟨rfl, rfl⟩
          go_wp2_with fail
          go_ret
          exact ⟨by rw [H.out]; rfl, (by (repeat' (first | with_reducible exact Below.refl _ _ | with_reducible refine below_alloc ?_ _ ?_ | with_reducible refine Below.setCell ?_ ?_ _ | with_reducible refine Below.drew ?_ | with_reducible refine below_drewN ?_ _ | with_reducible refine below_step ?_ (by assumption) ?_ | with_reducible refine below_mark ?_ (by assumption) ?_)); all_goals (first | omega | (simp; done) | (simp; omega)))⟩
        · have t2 : (n.tmod 10 == 0) = false := by simpa using c4
          have HH := Lib.hid (show b = !(decide (0 < e) && (fits10 n e.toNat).isSome) by rw [HB.out]; simp [c2, c3, c4, c10, c11])
          by_cases c5 : 0 < e
          · have H := Lib.hid (show b = !(fits10 n e.toNat).isSome by rw [HH.out]; simp [c5])
            clear c2 c3 c4 HH HB
            go_enter Tryd.func97, Tryd.ntmps97
            go_wp2_with fail
            refine (W1.out _).mono ?_
            rintro x w1 ⟨rfl, rfl⟩
            go_wp2_with fail
            refine (W2.out _).mono ?_
            rintro x w2 ⟨rfl, rfl⟩
            go_wp2_with fail
            refine (FT.out _).mono ?_
            rintro x w3 ⟨rfl, rfl⟩
            go_wp2_with fail
            go_ret
            exact ⟨by rw [H.out]; cases fits10 n e.toNat <;> rfl, (by (repeat' (first | with_reducible exact Below.refl _ _ | with_reducible refine below_alloc ?_ _ ?_ | with_reducible refine Below.setCell ?_ ?_ _ | with_reducible refine Below.drew ?_ | with_reducible refine below_drewN ?_ _ | with_reducible refine below_step ?_ (by assumption) ?_ | with_reducible refine below_mark ?_ (by assumption) ?_)); all_goals (first | omega | (simp; done) | (simp; omega)))⟩
          · have H := Lib.hid (show b = true by rw [HH.out]; simp [c5])
            clear c2 c3 c4 HH HB FT
            go_enter Tryd.func97, Tryd.ntmps97
            go_wp2_with fail
            refine (W1.out _).mono ?_
            rintro x w1 ⟨rfl, rfl⟩
            go_wp2_with fail
            refine (W2.out _).mono ?_
            rintro x w2 ⟨rfl, rfl⟩
            go_wp2_with fail
            go_ret
            exact ⟨by rw [H.out]; rfl, (by (repeat' (first | with_reducible exact Below.refl _ _ | with_reducible refine below_alloc ?_ _ ?_ | with_reducible refine Below.setCell ?_ ?_ _ | with_reducible refine Below.drew ?_ | with_reducible refine below_drewN ?_ _ | with_reducible refine below_step ?_ (by assumption) ?_ | with_reducible refine below_mark ?_ (by assumption) ?_)); all_goals (first | omega | (simp; done) | (simp; omega)))⟩
      · have W2 := Lib.hid (fun W => within_no n (-999999999999999999) 999999999999999999 W (by omega))
        have H := Lib.hid (show b = false by rw [HB.out, decide_eq_false c3]; simp)
        clear c2 c3 FT
        go_enter Tryd.func97, Tryd.ntmps97
        go_wp2_with fail
        refine (W1.out _).mono ?_
        rintro x w1 ⟨rfl, rfl⟩
        go_wp2_with fail
        refine (W2.out _).mono ?_
        rintro x w2 ⟨rfl, rfl⟩
        go_wp2_with fail
        go_ret
        exact ⟨by rw [H.out]; rfl, (by (repeat' (first | with_reducible exact Below.refl _ _ | with_reducible refine below_alloc ?_ _ ?_ | with_reducible refine Below.setCell ?_ ?_ _ | with_reducible refine Below.drew ?_ | with_reducible refine below_drewN ?_ _ | with_reducible refine below_step ?_ (by assumption) ?_ | with_reducible refine below_mark ?_ (by assumption) ?_)); all_goals (first | omega | (simp; done) | (simp; omega)))⟩
  · have W1 := Lib.hid (fun W => within_no e (-20) 20 W (by omega))
    have H := Lib.hid (show b = false by rw [HB.out, decide_eq_false c1]; simp)
    clear c1 FT
    go_enter Tryd.func97, Tryd.ntmps97
    go_wp2_with fail
    refine (W1.out _).mono ?_
    rintro x w1 ⟨rfl, rfl⟩
    go_wp2_with fail
    go_ret
    exact ⟨by rw [H.out]; rfl, (by (repeat' (first | with_reducible exact Below.refl _ _ | with_reducible refine below_alloc ?_ _ ?_ | with_reducible refine Below.setCell ?_ ?_ _ | with_reducible refine Below.drew ?_ | with_reducible refine below_drewN ?_ _ | with_reducible refine below_step ?_ (by assumption) ?_ | with_reducible refine below_mark ?_ (by assumption) ?_)); all_goals (first | omega | (simp; done) | (simp; omega)))⟩
theorem wrap_div (x : Int) (h0 : -9223372036854775808 ≤ x) (h1 : x ≤ 9223372036854775807) : ((wrap64 (x * 10)).tdiv 10 != x) = decide (¬ (-9223372036854775808 ≤ x * 10 ∧ x * 10 ≤ 9223372036854775807)) := by
  by_cases h : -9223372036854775808 ≤ x * 10 ∧ x * 10 ≤ 9223372036854775807
  · have hw : wrap64 (x * 10) = x * 10 := by unfold wrap64; omega
    rw [hw, Int.mul_tdiv_cancel _ (by decide)]
    simp [h]
  · have hne : (wrap64 (x * 10)).tdiv 10 ≠ x := by
      intro e
      have h2 : x * 10 - wrap64 (x * 10) ≤ 9 ∧ -9 ≤ x * 10 - wrap64 (x * 10) → False := by unfold wrap64; omega
      apply h2
      have h3 := Int.tdiv_mul_add_tmod (wrap64 (x * 10)) 10
      have h4 := Int.tmod_lt_of_pos (wrap64 (x * 10)) (show (0 : Int) < 10 by decide)
      have h5 := Int.lt_tmod_of_pos (wrap64 (x * 10)) (show (0 : Int) < 10 by decide)
      omega
    simp only [bne_iff_ne, ne_eq, hne, not_false_eq_true, h, decide_true]
set_option maxHeartbeats 400000 in
theorem l02Whole_any (n e : Int) (hn : In64 n) (he : In64 e) (w : World) : Calls Tryd.prog 94 #[.int .i64 n, .int .i64 e] w fun x w' => x = .returned (.bool (decide (0 < e) && (fits10 n e.toNat).isSome)) ∧ w' = w := by
  obtain ⟨hn0, hn1⟩ := hn
  obtain ⟨he0, he1⟩ := he
  generalize hG : fits10 n e.toNat = G
  have HG := Lib.hid hG; clear hG
  go_enter Tryd.func94, Tryd.ntmps94
  go_wp2_with fail
  go_loop [0, 5] (fun a b => ∃ (x : Int) (y : Int), a = .int .i64 x ∧ b = .int .i64 y ∧ -9223372036854775808 ≤ x ∧ x ≤ 9223372036854775807 ∧ 0 ≤ y ∧ (y ≤ e ∨ y = 0) ∧ Hid (G = fits10 x (e - y).toNat)) (fun _ b => (e - intOf b).toNat)
  case atStart => exact ⟨n, 0, rfl, rfl, hn0, hn1, by omega, .inr rfl, Lib.hid (by rw [← HG.out]; simp)⟩
  case round =>
    obtain ⟨x, y, rfl, rfl, hx0, hx1, hy0, hy1, HX⟩ := hrel
    by_cases hy : y < e
    · have HS := Lib.hid (fits10_step x (e - y) (by omega))
      have HW := wrap_div x hx0 hx1
      clear hy1
      by_cases hc : -9223372036854775808 ≤ x * 10 ∧ x * 10 ≤ 9223372036854775807
      · have H := Lib.hid (show G = fits10 (x * 10) (e - (y + 1)).toNat by rw [HX.out, HS.out, if_pos hc, show e - y - 1 = e - (y + 1) by omega])
        obtain ⟨m0, m1⟩ := hc
        have hd : (x * 10).tdiv 10 = x := Int.mul_tdiv_cancel _ (by decide)
        have hd2 : (x * 10) / 10 = x := Int.mul_ediv_cancel _ (by decide)
        have t1 : (x != x) = false := by simp
        clear HW HS
        go_wp2_with fail
        go_round
        case rel => exact ⟨x * 10, y + 1, rfl, rfl, m0, m1, by omega, .inl (by omega), H⟩
        case measure => simp [intOf]; omega
      · have H := Lib.hid (show G = none by rw [HX.out, HS.out, if_neg hc])
        have t0 : ((wrap64 (x * 10)).tdiv 10 != x) = true := by rw [HW]; exact decide_eq_true hc
        have t1 : (wrap64 ((wrap64 (x * 10)).tdiv 10) != x) = true := by
          have h2 : -9223372036854775808 ≤ wrap64 (x * 10) ∧ wrap64 (x * 10) ≤ 9223372036854775807 := by unfold wrap64; omega
          have h3 := Int.tdiv_mul_add_tmod (wrap64 (x * 10)) 10
          have h4 := Int.tmod_lt_of_pos (wrap64 (x * 10)) (show (0 : Int) < 10 by decide)
          have h5 := Int.lt_tmod_of_pos (wrap64 (x * 10)) (show (0 : Int) < 10 by decide)
          have h6 : wrap64 ((wrap64 (x * 10)).tdiv 10) = (wrap64 (x * 10)).tdiv 10 := by
            generalize (wrap64 (x * 10)).tdiv 10 = q at *
            unfold wrap64; omega
          rw [h6]; exact t0
        clear HW HS hc t0
        go_wp2_with fail
        go_ret
        exact ⟨by rw [H.out]; simp, rfl⟩
    · go_wp2_with fail
      go_ret
      refine ⟨?_, rfl⟩
      have h1 : G = some x := by rw [HX.out, show (e - y).toNat = 0 by omega]; rfl
      rw [h1]; simp
end Go.Proofs.YtppmoajoffeleaaDoor
namespace Go.Proofs.YtppmoajoffeleaaDoor
set_option linter.unusedSimpArgs false
set_option linter.unusedVariables false
set_option maxRecDepth 100000
open Go.RowKit
theorem evV_take : ∀ (ts : List V) (i : Nat), i % 2 = 0 → (h : i < ts.length) → evV (ts.take (i + 2)) = evV (ts.take i) ++ [ts[i]]
  | [], i, _, h => by simp at h
  | [t], i, _, h => by
    have : i = 0 := by simp at h; omega
    subst this; simp [evV]
  | t :: u :: ts, 0, _, _ => by simp [evV]
  | t :: u :: ts, 1, h, _ => by omega
  | t :: u :: ts, i + 2, h, hl => by
    have := evV_take ts i (by omega) (by simpa using hl)
    simp only [List.take_succ_cons, evV, this, List.cons_append, List.getElem_cons_succ]
theorem evV_split : ∀ (ts : List V) (i : Nat), i % 2 = 0 → evV ts = evV (ts.take i) ++ evV (ts.drop i)
  | [], i, _ => by simp [evV]
  | [t], 0, _ => by simp [evV]
  | [t], 1, h => by omega
  | [t], i + 2, _ => by simp [evV]
  | t :: u :: ts, 0, _ => by simp [evV]
  | t :: u :: ts, 1, h => by omega
  | t :: u :: ts, i + 2, h => by
    have := evV_split ts i (by omega)
    simp only [List.take_succ_cons, List.drop_succ_cons, evV, this, List.cons_append]
theorem mem_evV_take : ∀ (ts : List V) (i : Nat), i % 2 = 0 → ∀ x, x ∈ evV (ts.take i) ↔ ∃ q, ∃ h : q < ts.length, q < i ∧ q % 2 = 0 ∧ ts[q] = x := by
  intro ts i hi x
  constructor
  · intro h
    induction i using Nat.strongRecOn with
    | ind i ih =>
      by_cases h0 : i = 0
      · subst h0; simp [evV] at h
      · obtain ⟨j, rfl⟩ : ∃ j, i = j + 2 := ⟨i - 2, by omega⟩
        by_cases hl : j < ts.length
        · rw [evV_take ts j (by omega) hl, List.mem_append] at h
          rcases h with h | h
          · obtain ⟨q, hq, h1, h2⟩ := ih j (by omega) (by omega) h
            exact ⟨q, hq, by omega, h2⟩
          · exact ⟨j, hl, by omega, by omega, (List.mem_singleton.1 h).symm⟩
        · have e : ts.take (j + 2) = ts.take j := by rw [List.take_of_length_le (by omega), List.take_of_length_le (by omega)]
          rw [e] at h
          obtain ⟨q, hq, h1, h2⟩ := ih j (by omega) (by omega) h
          exact ⟨q, hq, by omega, h2⟩
  · rintro ⟨q, hq, h1, h2, rfl⟩
    have hq2 : ts[q] ∈ evV (ts.take (q + 2)) := by rw [evV_take ts q h2 hq]; simp
    have := evV_split (ts.take i) (q + 2) (by omega)
    rw [List.take_take, show min (q + 2) i = q + 2 by omega] at this
    rw [this]
    exact List.mem_append_left _ hq2
theorem keysB_append (eq : V → V → Bool) (L M : List V) (h : keysB eq (L ++ M) = true) : keysB eq L = true := by
  unfold keysB at *
  simp only [Bool.and_eq_true, decide_eq_true_eq, List.all_append, List.pairwise_append] at h ⊢
  exact ⟨h.1.1, h.2.1⟩
theorem keysB_snoc (eq : V → V → Bool) (L : List V) (x : V) : keysB eq (L ++ [x]) = (keysB eq L && isKeyB x && L.all fun y => !(eq y x)) := by
  unfold keysB
  rw [Bool.eq_iff_iff]
  simp only [Bool.and_eq_true, decide_eq_true_eq, List.all_append, List.pairwise_append, List.all_cons, List.all_nil, List.mem_singleton, forall_eq, List.pairwise_singleton, List.all_eq_true, Bool.not_eq_true', true_and, and_true]
  constructor
  · rintro ⟨⟨a, b⟩, c, d⟩; exact ⟨⟨⟨a, c⟩, b⟩, d⟩
  · rintro ⟨⟨⟨a, c⟩, b⟩, d⟩; exact ⟨⟨a, b⟩, c, d⟩
theorem keysB_stuck (eq : V → V → Bool) (ts : List V) (i : Nat) (hi : i % 2 = 0) (hl : i < ts.length) (h : isKeyB ts[i] = false ∨ ∃ q, ∃ hq : q < ts.length, q < i ∧ q % 2 = 0 ∧ eq ts[q] ts[i] = true) : keysB eq (evV ts) = false := by
  cases hk : keysB eq (evV ts)
  · rfl
  · exfalso
    have h1 := evV_split ts (i + 2) (by omega)
    rw [h1] at hk
    have h2 := keysB_append eq _ _ hk
    rw [evV_take ts i hi hl, keysB_snoc] at h2
    simp only [Bool.and_eq_true, List.all_eq_true, Bool.not_eq_true'] at h2
    rcases h with h | ⟨q, hq, hqi, hq2, he⟩
    · rw [h] at h2; simp at h2
    · have := h2.2 ts[q] ((mem_evV_take ts i hi _).2 ⟨q, hq, hqi, hq2, rfl⟩)
      rw [this] at he; cases he
def eqB (a b : V) : Bool := decide (a = b)
set_option maxHeartbeats 1000000 in
theorem areKids_plain (k n e : Int) (s : ByteArray) (a : Option Addr) (len cap : Nat) (w : World) (hlen : len ≤ 9223372036854775807) (h8 : k ≠ 8) :
    Calls Tryd.prog 75 #[.agg #[.int .i64 k, .int .i64 n, .int .i64 e, .string s, .slice a len cap]] w (BoolRet (if k = 7 then true else if k = 9 then decide (len = 1) else decide (len = 0)) w) := by
  obtain ⟨b, hb⟩ : ∃ b : Bool, b = (if k = 7 then true else if k = 9 then decide (len = 1) else decide (len = 0)) := ⟨_, rfl⟩
  rw [← hb]
  have HB := Lib.hid hb; clear hb
  have t8 : (k == 8) = false := by simpa using h8
  by_cases h7 : k = 7
  · have H := Lib.hid (show b = true by rw [HB.out, if_pos h7])
    have t7 : (k == 7) = true := by simpa using h7
    clear h8 h7 HB
    go_enter Tryd.func75, Tryd.ntmps75
    go_wp2_with fail
    go_ret
    exact ⟨by rw [H.out]; rfl, (by (repeat' (first | with_reducible exact Below.refl _ _ | with_reducible refine below_alloc ?_ _ ?_ | with_reducible refine Below.setCell ?_ ?_ _ | with_reducible refine Below.drew ?_ | with_reducible refine below_drewN ?_ _ | with_reducible refine below_step ?_ (by assumption) ?_ | with_reducible refine below_mark ?_ (by assumption) ?_)); all_goals (first | omega | (simp; done) | (simp; omega)))⟩
  have t7 : (k == 7) = false := by simpa using h7
  by_cases h9 : k = 9
  · have H := Lib.hid (show b = ((len : Int) == 1) by rw [HB.out, if_neg h7, if_pos h9, Bool.eq_iff_iff]; simp; omega)
    have t9 : (k == 9) = true := by simpa using h9
    clear h8 h7 h9 HB
    go_enter Tryd.func75, Tryd.ntmps75
    go_wp2_with fail
    go_ret
    exact ⟨by rw [H.out]; first | rfl | (simp; done), (by (repeat' (first | with_reducible exact Below.refl _ _ | with_reducible refine below_alloc ?_ _ ?_ | with_reducible refine Below.setCell ?_ ?_ _ | with_reducible refine Below.drew ?_ | with_reducible refine below_drewN ?_ _ | with_reducible refine below_step ?_ (by assumption) ?_ | with_reducible refine below_mark ?_ (by assumption) ?_)); all_goals (first | omega | (simp; done) | (simp; omega)))⟩
  have t9 : (k == 9) = false := by simpa using h9
  have H := Lib.hid (show b = ((len : Int) == 0) by rw [HB.out, if_neg h7, if_neg h9, Bool.eq_iff_iff]; simp)
  clear h8 h7 h9 HB
  go_enter Tryd.func75, Tryd.ntmps75
  go_wp2_with fail
  go_ret
  exact ⟨by rw [H.out]; first | rfl | (simp; done), (by (repeat' (first | with_reducible exact Below.refl _ _ | with_reducible refine below_alloc ?_ _ ?_ | with_reducible refine Below.setCell ?_ ?_ _ | with_reducible refine Below.drew ?_ | with_reducible refine below_drewN ?_ _ | with_reducible refine below_step ?_ (by assumption) ?_ | with_reducible refine below_mark ?_ (by assumption) ?_)); all_goals (first | omega | (simp; done) | (simp; omega)))⟩
set_option maxHeartbeats 6000000 in
theorem areKids_map (w0 : World) (n e : Int) (s : ByteArray) (sl : Value) (ts : List V) (hr : RepS w0 sl ts) (w : World) (hw : Below w0.heap.size w0 w) (hlen : ts.length ≤ 1048576) :
    Calls Tryd.prog 75 #[.agg #[.int .i64 8, .int .i64 n, .int .i64 e, .string s, sl]] w (BoolRet (pairsI ts) w) := by
  obtain ⟨b, hb⟩ : ∃ b : Bool, b = pairsI ts := ⟨_, rfl⟩
  rw [← hb]
  have HB := Lib.hid (show b = (keysB eqB (evV ts) && decide (ts.length % 2 = 0)) from hb)
  clear hb
  obtain ⟨a, bb, off, cap, rfl, ha, hc, hm, sls, hel⟩ := hr.opened
  have HA := Lib.hid ha; have HE := Lib.hid hel; have HR := Lib.hid hr
  clear ha hel hr hc hm
  have HW := Lib.hid hw
  have B0 := Lib.hid (Box.new w 8 n e s (.slice a ts.length cap) 26)
  go_enter Tryd.func75, Tryd.ntmps75
  go_wp2_with fail
  generalize hW1 : w.alloc (.cells #[.int .i64 8, .int .i64 n, .int .i64 e, .string s, .slice a ts.length cap] 26) = W1 at *
  have HB1 := Lib.hid (show Below w.heap.size w W1 by rw [← hW1]; exact (Below.refl _ _).alloc (Nat.le_refl _) _)
  have hz1 : w.heap.size + 1 = W1.heap.size := by rw [← hW1]; simp
  have HZ1 := Lib.hid hz1
  clear hW1 hz1
  go_loopw [3, 4] (fun i q wr => ∃ j : Nat, j % 2 = 0 ∧ j ≤ ts.length + 1 ∧ i = .int .i64 j ∧ Hid (keysB eqB (evV (ts.take j)) = true) ∧ Below W1.heap.size W1 wr) (fun i _ _ => ts.length + 2 - (intOf i).toNat)
  case atStart => exact ⟨0, rfl, by omega, rfl, Lib.hid rfl, Below.refl _ _⟩
  case round =>
    obtain ⟨j, hj2, hj, rfl, HN, hbl⟩ := hrel
    obtain ⟨p0, p1, p2, p3, p4⟩ := (B0.out.stay hbl).cells
    by_cases hlt : j < ts.length
    · have hne : ts ≠ [] := by intro e; rw [e] at hlt; simp at hlt
      obtain ⟨rfl, hbw⟩ := HA.out hne
      have HWR := Lib.hid (show Below w0.heap.size w0 wr from HW.out.trans ((HB1.out.mono HW.out.size).trans (hbl.mono (by have := HW.out.size; have := HZ1.out; omega))))
      obtain ⟨c0, c1, c2, c3, c4⟩ := (HE.out j hlt).1.keep (HWR.out.block bb hbw)
      obtain ⟨ak, kcap, hks⟩ := (HE.out j hlt).2.2.slice
      rw [hks] at c4
      have HKJ := Lib.hid (isKey_any ts[j].k ts[j].n ts[j].e ts[j].s (.slice ak ts[j].kids.length kcap) wr)
      have HS := Lib.hid (show keysB eqB (evV (ts.take (j + 2))) = (keysB eqB (evV (ts.take j)) && isKeyB ts[j] && (evV (ts.take j)).all fun y => !(eqB y ts[j])) by rw [evV_take ts j hj2 hlt, keysB_snoc])
      have HST := Lib.hid (keysB_stuck eqB ts j hj2 hlt)
      have HSL := Lib.hid hks
      have hbr : bb < wr.heap.size := Nat.lt_of_lt_of_le hbw HWR.out.size
      clear hks
      cases hkey : isKeyB ts[j]
      · have HX := Lib.hid (show b = false by rw [HB.out, HST.out (.inl hkey)]; rfl)
        have hk' : decide (ts[j].k = 5 ∨ ts[j].k = 3) = false := hkey
        rw [hk'] at HKJ
        clear hkey hk' HS HST HN
        generalize ts[j].k = xk at *
        generalize ts[j].n = xn at *
        generalize ts[j].e = xe at *
        generalize ts[j].s = xs at *
        go_wp2_with fail
        refine HKJ.out.mono ?_
        rintro e1 w1 ⟨rfl, hb1⟩
        go_wp2_with fail
        go_ret
        exact ⟨by rw [HX.out]; rfl, HB1.out.trans ((hbl.trans (hb1.mono hbl.size)).mono (by have := HZ1.out; omega))⟩
      · have hk' : decide (ts[j].k = 5 ∨ ts[j].k = 3) = true := hkey
        rw [hk'] at HKJ
        rw [hkey] at HS
        clear hkey hk'
        have HRJ := Lib.hid (show ∀ W : World, Below wr.heap.size wr W → Rep W (ts[j].agg (.slice ak ts[j].kids.length kcap)) ts[j] from fun W hW => ⟨_, rfl, (HE.out j hlt).2.1, by rw [← HSL.out]; exact ((HE.out j hlt).2.2.keep (HWR.out.trans (hW.mono HWR.out.size)))⟩)
        generalize htj : ts[j] = tj at *
        have HTJ := Lib.hid htj; clear htj
        unfold V.agg at HRJ
        go_wp2_with fail
        refine HKJ.out.mono ?_
        rintro e1 w1 ⟨rfl, hb1⟩
        go_wp2_with fail
        have HW1B := Lib.hid (show Below W1.heap.size W1 w1 from hbl.trans (hb1.mono hbl.size))
        have HW10 := Lib.hid (show Below w0.heap.size w0 w1 from HWR.out.trans (hb1.mono HWR.out.size))
        have HRJ1 := Lib.hid (HRJ.out w1 hb1)
        have BX1 := Lib.hid ((B0.out.stay hbl).stay hb1)
        have HNJ := Lib.hid (show b = (keysB eqB (evV ts) && decide (ts.length % 2 = 0)) from HB.out)
        clear c0 c1 c2 c3 c4 p0 p1 p2 p3 p4 hb1 hbl HKJ HRJ HWR hbr
        go_loopw [4] (fun i w2 => ∃ q : Nat, q % 2 = 0 ∧ q ≤ j + 1 ∧ i = .int .i64 q ∧ Hid (∀ x, (hx : x < q) → (hl : x < ts.length) → x % 2 = 0 → ts[x] ≠ tj) ∧ Below w1.heap.size w1 w2) (fun i _ => j + 2 - (intOf i).toNat)
        case atStart => exact ⟨0, rfl, by omega, rfl, Lib.hid (by omega), Below.refl _ _⟩
        case round =>
          obtain ⟨q, hq2, hqj, rfl, HNE, hbl2⟩ := hrel
          obtain ⟨p0, p1, p2, p3, p4⟩ := (BX1.out.stay hbl2).cells
          by_cases hqlt : q < j
          · have hqts : q < ts.length := by omega
            have HWR2 := Lib.hid (show Below w0.heap.size w0 wr from HW10.out.trans (hbl2.mono HW10.out.size))
            obtain ⟨c0, c1, c2, c3, c4⟩ := (HE.out q hqts).1.keep (HWR2.out.block bb hbw)
            obtain ⟨d0, d1, d2, d3, d4⟩ := (HE.out j hlt).1.keep (HWR2.out.block bb hbw)
            obtain ⟨aq, qcap, hqs⟩ := (HE.out q hqts).2.2.slice
            rw [hqs] at c4
            rw [HSL.out] at d4
            have hRQ : Rep w1 (ts[q].agg (.slice aq ts[q].kids.length qcap)) ts[q] := ⟨_, rfl, (HE.out q hqts).2.1, by rw [← hqs]; exact (HE.out q hqts).2.2.keep HW10.out⟩
            have SM := Lib.hid (fun (W : World) (hW : Below wr.heap.size wr W) => same_any w1 _ _ tj ts[q] HRJ1.out hRQ W (hbl2.trans (hW.mono hbl2.size)))
            have HTQ := Lib.hid (show eqB ts[q] tj = decide (tj = ts[q]) by unfold eqB; rw [decide_eq_decide]; exact eq_comm)
            rw [HTJ.out] at d0 d1 d2 d3
            try simp only [HTJ.out] at d4
            unfold V.agg at SM
            clear hqs hRQ
            have hbr2 : bb < wr.heap.size := Nat.lt_of_lt_of_le hbw HWR2.out.size
            by_cases heq : tj = ts[q]
            · rw [decide_eq_true heq] at SM HTQ
              have HX := Lib.hid (show b = false by rw [HNJ.out, HST.out (.inr ⟨q, hqts, hqlt, hq2, HTQ.out⟩)]; rfl)
              clear heq HST HS HNE HTQ
              go_wp2_with fail
              go_region_with (go_at_call 48; refine (SM.out _ (by (repeat' (first | with_reducible exact Below.refl _ _ | with_reducible refine below_alloc ?_ _ ?_ | with_reducible refine Below.setCell ?_ ?_ _ | with_reducible refine Below.drew ?_ | with_reducible refine below_drewN ?_ _ | with_reducible refine below_step ?_ (by assumption) ?_ | with_reducible refine below_mark ?_ (by assumption) ?_)); all_goals (first | omega | (simp; done) | (simp; omega)))).mono ?_; rintro e3 w3 ⟨rfl, hb3⟩)
              all_goals go_wp2_with fail
              all_goals go_ret
              all_goals exact ⟨by rw [HX.out]; rfl, HB1.out.trans ((HW1B.out.trans (Below.mono (show Below w1.heap.size w1 w3 by exact (by (repeat' (first | with_reducible exact Below.refl _ _ | with_reducible refine below_alloc ?_ _ ?_ | with_reducible refine Below.setCell ?_ ?_ _ | with_reducible refine Below.drew ?_ | with_reducible refine below_drewN ?_ _ | with_reducible refine below_step ?_ (by assumption) ?_ | with_reducible refine below_mark ?_ (by assumption) ?_)); all_goals (first | omega | (simp; done) | (simp; omega)))) HW1B.out.size)).mono (by have := HZ1.out; omega))⟩
            · rw [decide_eq_false heq] at SM
              have HX := Lib.hid (show ∀ x, (hx : x < q + 2) → (hl : x < ts.length) → x % 2 = 0 → ts[x] ≠ tj from fun x hx hl hx2 => by
                by_cases hxq : x < q
                · exact HNE.out x hxq hl hx2
                · have : x = q := by omega
                  subst this; exact fun e => heq e.symm)
              clear heq HNE HTQ
              go_wp2_with fail
              go_region_with (go_at_call 48; refine (SM.out _ (by (repeat' (first | with_reducible exact Below.refl _ _ | with_reducible refine below_alloc ?_ _ ?_ | with_reducible refine Below.setCell ?_ ?_ _ | with_reducible refine Below.drew ?_ | with_reducible refine below_drewN ?_ _ | with_reducible refine below_step ?_ (by assumption) ?_ | with_reducible refine below_mark ?_ (by assumption) ?_)); all_goals (first | omega | (simp; done) | (simp; omega)))).mono ?_; rintro e3 w3 ⟨rfl, hb3⟩)
              all_goals go_wp2_with fail
              all_goals go_roundw
              all_goals first
                | (simp [intOf]; omega)
                | exact ⟨q + 2, by omega, by omega, by go_num, HX, (by (repeat' (first | with_reducible exact Below.refl _ _ | with_reducible refine below_alloc ?_ _ ?_ | with_reducible refine Below.setCell ?_ ?_ _ | with_reducible refine Below.drew ?_ | with_reducible refine below_drewN ?_ _ | with_reducible refine below_step ?_ (by assumption) ?_ | with_reducible refine below_mark ?_ (by assumption) ?_)); all_goals (first | omega | (simp; done) | (simp; omega)))⟩
          · have HX := Lib.hid (show keysB eqB (evV (ts.take (j + 2))) = true by
              rw [HS.out, HN.out, Bool.true_and, Bool.true_and, List.all_eq_true]
              intro y hy
              obtain ⟨x, hx, hxj, hx2, rfl⟩ := (mem_evV_take ts j hj2 y).1 hy
              have := HNE.out x (by omega) hx hx2
              simp only [eqB, Bool.not_eq_true', decide_eq_false_iff_not]
              exact this)
            clear HST HS HNE
            go_wp2_with fail
            go_roundw
            case rel => exact ⟨j + 2, by omega, by omega, by go_num, HX, HW1B.out.trans (hbl2.mono HW1B.out.size)⟩
            case measure => simp [intOf]; omega
    · have HX := Lib.hid (show b = decide (ts.length % 2 = 0) by
        rw [HB.out]
        have h1 := HN.out
        rw [List.take_of_length_le (by omega)] at h1
        rw [h1]; rfl)
      go_wp2_with fail
      go_ret
      exact ⟨by rw [HX.out]; simp; rw [Bool.eq_iff_iff]; simp; omega, HB1.out.trans (hbl.mono (by have := HZ1.out; omega))⟩
theorem areKids_any (w0 : World) (t : V) (sl : Value) (hr : RepS w0 sl t.kids) (hw0 : t.wf) (w : World) (hw : Below w0.heap.size w0 w) (hlen : t.kids.length ≤ 1048576) : Calls Tryd.prog 75 #[t.agg sl] w (BoolRet (areB t) w) := by
  unfold areB V.agg
  by_cases h8 : t.k = 8
  · rw [if_neg (by omega), if_neg (by omega), if_pos h8, h8]
    exact areKids_map w0 t.n t.e t.s sl t.kids hr w hw hlen
  · obtain ⟨a, cap, rfl⟩ := hr.slice
    have := areKids_plain t.k t.n t.e t.s a t.kids.length cap w (by omega) h8
    simp only [if_neg h8]
    exact this
end Go.Proofs.YtppmoajoffeleaaDoor
