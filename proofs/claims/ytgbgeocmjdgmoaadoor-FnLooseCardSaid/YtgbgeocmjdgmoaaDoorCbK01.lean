/- Lemmas for the statement of the last text of this claim: texts joined. -/
import Derived.WalkKit
import Derived.WalkSpells
import Derived.Deep.AppendSrc
import Derived.Laws.IdiomCopy
import Derived.Deep.Upon
import Derived.Lib.Hide
import Derived.WalkSmall
import Derived.Test.YtgbgeocmjdgmoaaDoorRows
import Derived.ProofKit
import Derived.WalkLawsBesides
import Derived.Deep.QuietTactic
import Derived.BigQuiet
import Derived.Deep.RegionWith
import Derived.Lib.ValidLaws
import Derived.OpenShut
import Derived.ShutString
namespace Go.Proofs.YtgbgeocmjdgmoaaDoor
set_option linter.unusedSimpArgs false
set_option linter.unusedVariables false
set_option maxRecDepth 100000
open Go.RowKit
theorem heap_setCells_same (g : Nat) (e : TypeId) : ∀ (vs : List Value) (o : Nat) (w : World) (cur : Array Value), w.heap[g]? = some (.cells cur e (0, 0)) → o + vs.length ≤ cur.size →
    ∃ cur', (w.setCells g o vs).heap[g]? = some (.cells cur' e (0, 0)) ∧ cur'.size = cur.size ∧ cur'.toList = cur.toList.take o ++ vs ++ cur.toList.drop (o + vs.length)
  | [], o, w, cur, h, _ => ⟨cur, h, rfl, by simp⟩
  | v :: vs, o, w, cur, h, hl => by
    simp only [List.length_cons] at hl
    have h1 := heap_setCell_same w g o cur e v h
    obtain ⟨cur', h2, h3, h4⟩ := heap_setCells_same g e vs (o + 1) (w.setCell ⟨g, o, none⟩ v) _ h1 (by simp; omega)
    refine ⟨cur', h2, by rw [h3]; simp, ?_⟩
    rw [h4]
    have ho : o < cur.toList.length := by rw [Array.length_toList]; omega
    simp only [Array.toList_setIfInBounds, List.length_cons]
    rw [List.take_set, List.drop_set_of_lt (by omega), List.take_succ_eq_append_getElem ho]
    have h5 : (List.take o cur.toList ++ [cur.toList[o]]).set o v = List.take o cur.toList ++ [v] := by
      have h6 : (List.take o cur.toList).length = o := by rw [List.length_take]; omega
      rw [List.set_append, if_neg (by omega), h6, Nat.sub_self]
      rfl
    rw [h5, show o + 1 + vs.length = o + (vs.length + 1) by omega]
    simp

theorem below_step {B : Nat} {a b c : World} (h : Below B a b) (h2 : Below b.heap.size b c) (hB : B ≤ a.heap.size) : Below B a c :=
  h.trans (h2.mono (Nat.le_trans hB h.size))
theorem below_mark {B C : Nat} {a b c : World} (h : Below B a b) (h2 : Below C b c) (hB : B ≤ C) : Below B a c := h.trans (h2.mono hB)
theorem below_alloc {B : Nat} {a w : World} (h : Below B a w) (o : Obj) (hB : B ≤ a.heap.size) : Below B a (w.alloc o) := h.alloc (Nat.le_trans hB h.size) o
def FreshOr (w : World) (v v' : Value) : Prop := v'.ownBlock = v.ownBlock ∨ v'.ownBlock = some w.heap.size

section
variable {P : Program} {w : World}
theorem run_app (base : Nat) (t tx ty e : TypeId) (i : TypeInfo) (z : Value) (size bytes : Nat) (ht : P.underlying t = some (.slice e)) (hi : P.info? e = some i) (hz : i.zero = some z)
    (hsize : i.size = size) (hby : i.bytes = bytes) (hzs : z.cells.size = size)
    (v : Value) (n : Nat) (xs : List Value) (hown : w.ownsRow base e size v n xs)
    (x : Value) (m : Nat) (news : List Value) (hs : Src P size tx x m news w)
    (h63 : n + m ≤ 1099511627776) (hb8 : bytes ≤ 128) (hbase : base ≤ w.heap.size) :
    ∃ v' w', (Builtin.append_ #[t, tx] ty #[v, x]).run P w = .ok v' w' ∧ w'.ownsRow base e size v' (n + m) (xs ++ news) ∧ w.grownBy w' v.ownBlock ∧ FreshOr w v v' ∧
      (v' = .slice none 0 0 ↔ v = .slice none 0 0 ∧ m = 0) := by
  subst hsize
  subst hby
  have hlen : (xs ++ news).length = (n + m) * i.size := by rw [List.length_append, hown.1, hs.newsLen, Nat.add_mul]
  have hbytes : (n + m) * i.bytes ≤ 140737488355328 := Nat.le_trans (Nat.mul_le_mul h63 hb8) (by decide)
  have grown : ∀ (old : Nat), old < n + m → ∀ (row : Option Nat),
      (w.drew.alloc (.cells ((xs ++ news).toArray ++ Builtin.zeroCells z.cells (grownCap w (n + m) old e - (n + m))) e)).ownsRow base e i.size
        (.slice (some ⟨w.heap.size, 0, none⟩) (n + m) (grownCap w (n + m) old e)) (n + m) (xs ++ news) ∧
      w.grownBy (w.drew.alloc (.cells ((xs ++ news).toArray ++ Builtin.zeroCells z.cells (grownCap w (n + m) old e - (n + m))) e)) row := by
    intro old ho row
    have hge := grownCap_ge w (n + m) old e
    have hcm : grownCap w (n + m) old e ≤ maxLen := grownCap_le_maxLen w (n + m) old e (by simp only [maxLen]; omega)
    refine ⟨⟨hlen, .inr ⟨w.heap.size, _, _, rfl, hbase, heap_alloc_new w.drew _, hge, hcm, ?_, ?_⟩⟩, ⟨rfl, rfl, rfl, by simp, fun k hk _ => heap_alloc_old w.drew _ hk⟩⟩
    · simp only [Array.size_append, List.size_toArray, size_zeroCells, hzs, hlen, ← Nat.add_mul]
      congr 1
      omega
    · simp only [Array.toList_append, ← hlen]
      exact List.take_left
  rcases hown.2 with ⟨rfl, rfl⟩ | ⟨g, cap, cur, rfl, hbg, hg, hnc, hcm, hcs, htake⟩
  · have hx : xs = [] := List.eq_nil_of_length_eq_zero (by simpa using hown.1)
    subst hx
    by_cases hm : m = 0
    · subst hm
      have hn : news = [] := List.eq_nil_of_length_eq_zero (by simpa using hs.newsLen)
      subst hn
      have hc := hs.cells
      refine ⟨.slice none 0 0, w, ?_, World.ownsRow_nil w base e i.size, ⟨rfl, rfl, rfl, Nat.le_refl _, fun _ _ _ => rfl⟩, .inl rfl, by simp⟩
      rcases hs.kind with ⟨e', hk⟩ | hk <;> simp [Builtin.append_, run_underlying ht, run_underlying hk, sizeOf, typeInfo, hi, hs.len, hc]
    · have hr := run_append_grow_src (P := P) w t tx ty e i z ht hi hz none 0 0 [] (run_firstCells_none w.drew i.size 0 0 0) x m news hs (by omega) (by omega) (by have hb := hbytes; exact growslice_fits (by omega) hb)
      have hgr := grown 0 (by omega) (Value.ownBlock (.slice none 0 0))
      simp only [Nat.zero_add, List.nil_append] at hgr hr ⊢
      exact ⟨_, _, hr, hgr.1, hgr.2, .inr rfl, by simp [hm]⟩
  · by_cases hroom : n + m ≤ cap
    · have hfit : n * i.size + news.length ≤ cur.size := by rw [hs.newsLen, hcs, ← Nat.add_mul]; exact Nat.mul_le_mul_right _ hroom
      have hr := run_append_room_src (P := P) w t tx ty e i ht hi g 0 n cap x m news hs hroom
        (by intro j hj; rw [cell_of_row w g _ cur e (0, 0) hg, Array.getElem?_eq_getElem (by omega)]; rfl) (by intro j hj; exact frozen_of_row w g _ cur e hg)
      obtain ⟨cur', h1, h2, h3⟩ := heap_setCells_same g e news (0 + n * i.size) w cur hg (by omega)
      refine ⟨_, _, hr, ⟨hlen, .inr ⟨g, cap, cur', rfl, hbg, h1, hroom, hcm, by rw [h2]; exact hcs, ?_⟩⟩, ⟨World.os_setCells .., ?_, World.output_setCells .., ?_, fun k hk hne => World.heap_setCells_other _ _ _ _ hk (fun e => hne (by simp [Value.ownBlock, e]))⟩, .inl rfl, by simp⟩
      · rw [h3, Nat.zero_add, htake, ← hlen]
        exact List.take_left
      · have : ∀ (vs : List Value) (o : Nat) (w : World), (w.setCells g o vs).tape = w.tape := by
          intro vs; induction vs with
          | nil => intro o w; rfl
          | cons v vs ih => intro o w; exact ih _ _
        exact this _ _ _
      · have : ∀ (vs : List Value) (o : Nat) (w : World), (w.setCells g o vs).heap.size = w.heap.size := by
          intro vs; induction vs with
          | nil => intro o w; rfl
          | cons v vs ih => intro o w; exact (ih _ _).trans (by simp)
        exact Nat.le_of_eq (this _ _ _).symm
    · have holds : ∀ j u, xs[j]? = some u → w.cell? ((⟨g, 0, none⟩ : Addr).add j) = some u := hown.cells (g := g) rfl
      have hr := run_append_grow_src (P := P) w t tx ty e i z ht hi hz (some ⟨g, 0, none⟩) n cap xs (run_firstCells_some w.drew i.size n ⟨g, 0, none⟩ n cap xs hown.1 (by simpa using holds)) x m news hs (by omega) (by omega) (growslice_fits (by omega) hbytes)
      have hgr := grown cap (by omega) (Value.ownBlock (.slice (some ⟨g, 0, none⟩) n cap))
      exact ⟨_, _, hr, hgr.1, hgr.2, .inr rfl, by simp⟩

theorem wpList_app {ops : Array Oper} {rest : List Oper} {o : Oper} {a : Act} {Q : Exit → Act → World → Prop} (hgd : o.guard = none) (s x : Operand) (t tx : TypeId)
    (ho : o.op = .call { callee := .builtin .append, args := #[s, x], argTypes := #[t, tx] })
    (base : Nat) (e : TypeId) (i : TypeInfo) (z : Value) (size bytes : Nat) (ht : P.underlying t = some (.slice e)) (hi : P.info? e = some i) (hz : i.zero = some z)
    (hsize : i.size = size) (hby : i.bytes = bytes) (hzs : z.cells.size = size) (hb8 : bytes ≤ 128)
    (v : Value) (n : Nat) (xs : List Value) (hs : a.eval s = v) (hown : w.ownsRow base e size v n xs)
    (xv : Value) (hx : a.eval x = xv) (m : Nat) (news : List Value) (hsrc : Src P size tx xv m news w)
    (h63 : n + m ≤ 1099511627776) (hbase : base ≤ w.heap.size)
    (h : ∀ v' w', w'.ownsRow base e size v' (n + m) (xs ++ news) → w.grownBy w' v.ownBlock → FreshOr w v v' → (v' = .slice none 0 0 ↔ v = .slice none 0 0 ∧ m = 0) → wpList P ops Q rest (a.put o.dst v') w') : wpList P ops Q (o :: rest) a w := by
  refine wpList_plain hgd fun K hK => ?_
  obtain ⟨v', w', hr, h2, h3, h4, h5⟩ := run_app (P := P) (w := w) base t tx o.type e i z size bytes ht hi hz hsize hby hzs v n xs hown xv m news hsrc h63 hb8 hbase
  unfold Oper.wp execOp
  simp only [ho, resolve, invoke, builtin, Sem.run_bind, Sem.run_pure, Result.andThen_ok, List.map_toArray, List.map_cons, List.map_nil, hs, hx, hr]
  exact hK _ _ (h v' w' h2 h3 h4 h5)
theorem step_app {ops : Array Oper} {o : Oper} {a : Act} {K : Act → World → Prop} {Q : Exit → Act → World → Prop} {X : Prop} (hgd : o.guard = none) (s x : Operand) (t tx : TypeId)
    (ho : o.op = .call { callee := .builtin .append, args := #[s, x], argTypes := #[t, tx] })
    (base : Nat) (e : TypeId) (i : TypeInfo) (z : Value) (size bytes : Nat) (ht : P.underlying t = some (.slice e)) (hi : P.info? e = some i) (hz : i.zero = some z)
    (hsize : i.size = size) (hby : i.bytes = bytes) (hzs : z.cells.size = size) (hb8 : bytes ≤ 128)
    (v : Value) (n : Nat) (xs : List Value) (hs : a.eval s = v) (hown : w.ownsRow base e size v n xs)
    (xv : Value) (hx : a.eval x = xv) (m : Nat) (news : List Value) (hsrc : Src P size tx xv m news w)
    (h63 : n + m ≤ 1099511627776) (hbase : base ≤ w.heap.size)
    (h : ∀ v' w', w'.ownsRow base e size v' (n + m) (xs ++ news) → w.grownBy w' v.ownBlock → FreshOr w v v' → (v' = .slice none 0 0 ↔ v = .slice none 0 0 ∧ m = 0) → K (a.put o.dst v') w') :
    if Region.wanted o (yielded ops a.tmps) = true then Oper.wp P o a w K Q else X := by
  have hw : Region.wanted o (yielded ops a.tmps) = true := by simp [Region.wanted, hgd]
  rw [if_pos hw]
  obtain ⟨v', w', hr, h2, h3, h4, h5⟩ := run_app (P := P) (w := w) base t tx o.type e i z size bytes ht hi hz hsize hby hzs v n xs hown xv m news hsrc h63 hb8 hbase
  unfold Oper.wp execOp
  simp only [ho, resolve, invoke, builtin, Sem.run_bind, Sem.run_pure, Result.andThen_ok, List.map_toArray, List.map_cons, List.map_nil, hs, hx, hr]
  exact h v' w' h2 h3 h4 h5
end
end Go.Proofs.YtgbgeocmjdgmoaaDoor
namespace Go.Proofs.YtgbgeocmjdgmoaaDoor
set_option linter.unusedSimpArgs false
set_option linter.unusedVariables false
set_option maxRecDepth 100000
open Go.RowKit
theorem info_u8 : (Tryd.prog.info? 5).map (fun i => (i.zero, i.size, i.bytes)) = some (some (.int .u8 0), 1, 1) := by kernel_rfl
def bys (l : List UInt8) : List Value := l.map fun c => Value.int .u8 c.toNat
abbrev bstr (l : List UInt8) : Value := .string ⟨l.toArray⟩
def BRow (w : World) (base : Nat) (v : Value) (l : List UInt8) : Prop := w.ownsRow base 5 1 v l.length (bys l)
theorem bys_length (l : List UInt8) : (bys l).length = l.length := by simp [bys]
theorem bys_append (l m : List UInt8) : bys (l ++ m) = bys l ++ bys m := by simp [bys]
theorem size_eq (s : ByteArray) : s.size = s.data.toList.length := by rw [Array.length_toList]; rfl
theorem BRow.lt {w : World} {base : Nat} {v : Value} {l : List UInt8} (h : BRow w base v l) : ∀ k, v.ownBlock = some k → base ≤ k ∧ k < w.heap.size := World.ownsRow.lt h
section
variable {w : World} {ops : Array Oper} {rest : List Oper} {o : Oper} {a : Act} {Q : Exit → Act → World → Prop}
theorem app_bytes (hgd : o.guard = none) (s x : Operand) (tx : TypeId)
    (ho : o.op = .call { callee := .builtin .append, args := #[s, x], argTypes := #[22, tx] })
    (base : Nat) (v : Value) (l : List UInt8) (hs : a.eval s = v) (hown : BRow w base v l) (xv : Value) (hx : a.eval x = xv) (news : List UInt8) (hsrc : Src Tryd.prog 1 tx xv news.length (bys news) w)
    (h63 : l.length + news.length ≤ 1099511627776) (hbase : base ≤ w.heap.size)
    (h : ∀ v' w', BRow w' base v' (l ++ news) → w.grownBy w' v.ownBlock → FreshOr w v v' → wpList Tryd.prog ops Q rest (a.put o.dst v') w') : wpList Tryd.prog ops Q (o :: rest) a w := by
  obtain ⟨i0, hi, hz0, hz1, hz2⟩ := info_parts info_u8
  exact wpList_app hgd s x 22 tx ho base 5 i0 (.int .u8 0) 1 1 Tryd.underlying22 hi hz0 hz1 hz2 rfl (by decide) v l.length (bys l) hs hown xv hx news.length (bys news) hsrc h63 hbase
    (fun v' w' h1 h2 h3 _ => h v' w' (by unfold BRow; rw [List.length_append, bys_append]; exact h1) h2 h3)
end
theorem src_row {w : World} {base : Nat} {v : Value} {l : List UInt8} (h : BRow w base v l) : Src Tryd.prog 1 22 v l.length (bys l) w := by
  have h1 : ∀ u ∈ bys l, u.oneCell' = true := fun u hu => by obtain ⟨_, _, rfl⟩ := List.mem_map.1 hu; rfl
  rcases h.2 with ⟨rfl, hn⟩ | ⟨g, cap, cur, rfl, hbg, hg, hnc, hcm, hcs, htake⟩
  · have : l = [] := List.eq_nil_of_length_eq_zero hn
    subst this
    exact Src.ofNil w Tryd.underlying22 0
  · exact Src.ofSlice w Tryd.underlying22 _ _ _ _ (by rw [bys_length, Nat.mul_one]) (h.cells rfl) h1
theorem src_one (w : World) (c : UInt8) (b : Nat) (h : w.cell? ⟨b, 0, none⟩ = some (.int .u8 c.toNat)) : Src Tryd.prog 1 22 (.slice (some ⟨b, 0, none⟩) 1 1) [c].length (bys [c]) w :=
  Src.ofSlice w Tryd.underlying22 _ _ _ _ rfl (by intro j u hu; match j, hu with | 0, hu => (simp [bys] at hu; subst hu; exact h)) (by intro u hu; simp [bys] at hu; subst hu; rfl)
theorem cell_new_one (w : World) (x : Value) (t : TypeId) : (w.alloc (.cells #[x] t)).cell? ⟨w.heap.size, 0, none⟩ = some x := by
  rw [cell_of_row (w.alloc (.cells #[x] t)) w.heap.size 0 #[x] t (0, 0) (heap_alloc_new w _)]; rfl
theorem u8_back (x : Int) (h0 : 0 ≤ x) (h1 : x < 256) : ((UInt8.ofNat x.toNat).toNat : Int) = x := by simp; omega
theorem src_new (w : World) (x : Int) (h0 : 0 ≤ x) (h1 : x < 256) : Src Tryd.prog 1 22 (.slice (some ⟨w.heap.size, 0, none⟩) 1 1) [UInt8.ofNat x.toNat].length (bys [UInt8.ofNat x.toNat]) (w.alloc (.cells #[.int .u8 x] 5)) :=
  src_one _ _ _ (by rw [cell_new_one, u8_back x h0 h1])
theorem BRow.made {w : World} {base : Nat} (l : List UInt8) (hb : base ≤ w.heap.size) (hl : l.length ≤ 1099511627776) : BRow (w.alloc (.cells (bys l).toArray 5)) base (.slice (some ⟨w.heap.size, 0, none⟩) l.length l.length) l := by
  have := World.ownsRow_lit (w := w) (base := base) (e := 5) (size := 1) (bys l).toArray l.length hb (by simp only [maxLen]; omega) (by simp [bys_length])
  simpa [BRow] using this
theorem foldl_push (l : List UInt8) : ∀ s : ByteArray, (l.map fun c => (c.toNat : Int)).foldl (fun r n => r.push (UInt8.ofNat n.toNat)) s = ⟨s.data ++ l.toArray⟩ := by
  induction l with
  | nil => intro s; simp
  | cons c l ih => intro s; simp only [List.map_cons, List.foldl_cons]; rw [ih]; simp [ByteArray.push]
theorem run_str {w : World} {base : Nat} {v : Value} {l : List UInt8} (h : BRow w base v l) : (convert 22 9 v).run Tryd.prog w = .ok (bstr l) w := by
  rcases h.2 with ⟨rfl, hn⟩ | ⟨g, cap, cur, rfl, hbg, hg, hnc, hcm, hcs, htake⟩
  · have : l = [] := List.eq_nil_of_length_eq_zero hn
    subst this
    rw [run_convert_bytes_string w 22 9 5 none 0 0 Tryd.underlying22 Tryd.underlying5 Tryd.underlying9]
    rfl
  · rw [run_convert_bytes_string w 22 9 5 _ _ _ Tryd.underlying22 Tryd.underlying5 Tryd.underlying9]
    have hm : (l.map fun c => (c.toNat : Int)).map (Value.int .u8) = bys l := by simp [bys]
    rw [run_bytesToString w _ _ _ (l.map fun c => (c.toNat : Int)) (by
      have h1 := run_loadCells_list (P := Tryd.prog) w ⟨g, 0, none⟩ (bys l) (World.ownsRow.cells h rfl)
      rw [bys_length] at h1
      rw [hm]; exact h1)]
    rw [foldl_push]
    simp [bstr]
theorem run_str1 (W : World) (b : Nat) (x : Int) (h : W.cell? ⟨b, 0, none⟩ = some (.int .u8 x)) :
    (convert 22 9 (.slice (some ⟨b, 0, none⟩) 1 1)).run Tryd.prog W = .ok (bstr [UInt8.ofNat x.toNat]) W := by
  rw [run_convert_bytes_string W 22 9 5 _ _ _ Tryd.underlying22 Tryd.underlying5 Tryd.underlying9]
  rw [run_bytesToString W _ 1 1 [x] (by
    have h1 := run_loadCells_list (P := Tryd.prog) (w := W) ⟨b, 0, none⟩ [.int .u8 x] (by intro j v hv; match j, hv with | 0, hv => (simp at hv; subst hv; exact h))
    exact h1)]
  rfl
theorem bcell {W w1 : World} {B : Nat} (hb : Below B W w1) : (∀ b o, b < B → w1.cell? ⟨b, o, none⟩ = W.cell? ⟨b, o, none⟩) ∧ (∀ b o, b < B → w1.frozen? ⟨b, o, none⟩ = W.frozen? ⟨b, o, none⟩) :=
  ⟨fun b o h => hb.cell (p := ⟨b, o, none⟩) h, fun b o h => hb.frozen (p := ⟨b, o, none⟩) h⟩
end Go.Proofs.YtgbgeocmjdgmoaaDoor
namespace Go.Proofs.YtgbgeocmjdgmoaaDoor
set_option linter.unusedSimpArgs false
set_option linter.unusedVariables false
set_option maxRecDepth 100000
open Go.RowKit
def big : Nat → Nat → List UInt8
  | 0, _ => []
  | i + 1, n => UInt8.ofNat (n / 256 ^ i) :: big i n
theorem big_length (i n : Nat) : (big i n).length = i := by induction i with | zero => rfl | succ i ih => simp [big, ih]
theorem div_pow (n i : Nat) : n / 256 ^ i / 256 = n / 256 ^ (i + 1) := by rw [Nat.div_div_eq_div_mul, Nat.pow_succ]
set_option maxHeartbeats 400000 in
theorem l05Big_any (n m : Nat) (w : World) (hn : n < 18446744073709551616) (hm : m ≤ 100) :
    Calls Tryd.prog 125 #[.int .u64 n, .int .i64 m] w fun e w' => e = .returned (bstr (big m n)) ∧ Below w.heap.size w w' := by
  go_enter Tryd.func125, Tryd.ntmps125
  go_wp2
  go_loopw [0, 5, 6] (fun x v i wr => ∃ k : Nat, k ≤ m ∧ i = .int .i64 k ∧ x = .int .u64 ((n / 256 ^ k : Nat) : Int) ∧ BRow wr w.heap.size v (big k n) ∧ Below w.heap.size w wr) (fun _ _ i _ => m - (intOf i).toNat)
  case atStart => exact ⟨0, Nat.zero_le _, rfl, by simp, BRow.made [] (Nat.le_refl _) (by simp), (Below.refl _ _).alloc (Nat.le_refl _) _⟩
  case round =>
    obtain ⟨k, hk, rfl, rfl, hrow, hbl⟩ := hrel
    have hq : n / 256 ^ k < 18446744073709551616 := Nat.lt_of_le_of_lt (Nat.div_le_self _ _) hn
    have H := Lib.hid (div_pow n k)
    have hsz := hbl.size
    have hlen := big_length k n
    generalize hx : n / 256 ^ k = q at *
    have Hx := Lib.hid hx; clear hx
    have Hlen := Lib.hid hlen; clear hlen
    by_cases hlt : k < m
    · have r1 : BRow (wr.alloc (.cells #[.int .u8 ((q : Int) % 256)] 5)) w.heap.size (.slice (some ⟨wr.heap.size, 0, none⟩) 1 1) [UInt8.ofNat q] := by
        have := BRow.made (w := wr) [UInt8.ofNat q] hsz (by simp)
        simpa [bys] using this
      have r2 : Src Tryd.prog 1 22 u5 (big k n).length (bys (big k n)) (wr.alloc (.cells #[.int .u8 ((q : Int) % 256)] 5)) := src_row (World.ownsRow.alloc hrow _)
      have R1 := Lib.hid r1; clear r1
      have R2 := Lib.hid r2; clear r2
      have RW := Lib.hid hrow; clear hrow
      go_wp2_with (at_builtin; refine app_bytes rfl _ _ _ rfl w.heap.size _ [UInt8.ofNat q] rfl R1.out _ rfl (big k n) R2.out (by rw [Hlen.out]; simp; omega) (by simp; omega) ?_; intro v' w' hrow' hg' _)
      go_roundw
      case rel => exact ⟨k + 1, by omega, by go_num, by rw [← H.out]; simp, by rw [big, Hx.out]; exact hrow', (hbl.alloc hsz _).grown hg' (by simp; omega) (fun k' hk' => (BRow.lt R1.out k' hk').1)⟩
      case measure => simp [intOf]; omega
    · have hkm : k = m := by omega
      have r := run_str hrow
      subst hkm
      go_wp2
      go_ret
      exact ⟨rfl, hbl⟩
def TxtRet (w : World) (l : List UInt8) (e : Ending) (w' : World) : Prop := e = .returned (bstr l) ∧ Below w.heap.size w w'
theorem l05Big_int (x m : Int) (w : World) (h0 : 0 ≤ x) (hx : x < 18446744073709551616) (hm0 : 0 ≤ m) (hm : m ≤ 100) :
    Calls Tryd.prog 125 #[.int .u64 x, .int .i64 m] w (TxtRet w (big m.toNat x.toNat)) := by
  obtain ⟨n, rfl⟩ := Int.eq_ofNat_of_zero_le h0
  obtain ⟨k, rfl⟩ := Int.eq_ofNat_of_zero_le hm0
  exact l05Big_any n k w (by omega) (by omega)
theorem ret_str {s : ByteArray} {l : List UInt8} (h : s = ⟨l.toArray⟩) : Ending.returned (.string s) = .returned (bstr l) := by rw [h]
theorem bstr_append (l m : List UInt8) : (⟨l.toArray⟩ : ByteArray) ++ ⟨m.toArray⟩ = ⟨(l ++ m).toArray⟩ := by
  simp [ByteArray.ext_iff]
end Go.Proofs.YtgbgeocmjdgmoaaDoor
namespace Go.Proofs.YtgbgeocmjdgmoaaDoor
set_option linter.unusedSimpArgs false
set_option linter.unusedVariables false
set_option maxRecDepth 100000
open Go.RowKit
inductive V where
  | mk (k n e : Int) (s : ByteArray) (kids : List V)
namespace V
set_option linter.unusedSimpArgs false
def k : V → Int | mk k _ _ _ _ => k
def n : V → Int | mk _ n _ _ _ => n
def e : V → Int | mk _ _ e _ _ => e
def s : V → ByteArray | mk _ _ _ s _ => s
def kids : V → List V | mk _ _ _ _ ks => ks
end V
theorem ba_ext {a b : ByteArray} (h : a.data.toList = b.data.toList) : a = b := by
  cases a; cases b; simp at h; rw [h]
instance baDec : DecidableEq ByteArray := fun a b => decidable_of_decidable_of_iff (p := a.data.toList = b.data.toList) ⟨ba_ext, fun h => by rw [h]⟩
theorem ba_eqv (a b : ByteArray) : (a.toList == b.toList) = decide (a = b) := by
  rw [ByteArray.toList_eq, ByteArray.toList_eq, Bool.eq_iff_iff]
  simp only [beq_iff_eq, decide_eq_true_eq]
  exact ⟨ba_ext, fun h => by rw [h]⟩
theorem ba_yes {a b : ByteArray} (h : a = b) : (a.toList == b.toList) = true := by rw [ba_eqv]; simpa using h
theorem ba_no {a b : ByteArray} (h : ¬ a = b) : (a.toList == b.toList) = false := by rw [ba_eqv]; simpa using h
mutual
def V.sz : V → Nat
  | .mk _ _ _ s ks => s.size + szs ks
def szs : List V → Nat
  | [] => 0
  | t :: ts => 1 + t.sz + szs ts
 end
def In64 (n : Int) : Prop := -9223372036854775808 ≤ n ∧ n ≤ 9223372036854775807
def V.wf (t : V) : Prop := In64 t.k ∧ In64 t.n ∧ In64 t.e ∧ t.s.size ≤ 9223372036854775807
def Cells5 (w : World) (b o : Nat) (t : V) (sl : Value) : Prop :=
  w.cell? ⟨b, o, none⟩ = some (.int .i64 t.k) ∧ w.cell? ⟨b, o + 1, none⟩ = some (.int .i64 t.n) ∧ w.cell? ⟨b, o + 2, none⟩ = some (.int .i64 t.e) ∧ w.cell? ⟨b, o + 3, none⟩ = some (.string t.s) ∧ w.cell? ⟨b, o + 4, none⟩ = some sl
inductive RepS (w : World) : Value → List V → Prop
  | mk (a : Option Addr) (b off cap : Nat) (ts : List V) (sls : Nat → Value) (ha : ts ≠ [] → a = some ⟨b, off, none⟩) (hc : ts.length ≤ cap) (hm : cap ≤ 9223372036854775807)
      (hb : ts ≠ [] → b < w.heap.size) (cells : ∀ i (h : i < ts.length), Cells5 w b (off + i * 5) ts[i] (sls i)) (wfs : ∀ i (h : i < ts.length), ts[i].wf)
      (kids : ∀ i (h : i < ts.length), RepS w (sls i) ts[i].kids) : RepS w (.slice a ts.length cap) ts
def V.agg (t : V) (sl : Value) : Value := .agg #[.int .i64 t.k, .int .i64 t.n, .int .i64 t.e, .string t.s, sl]
def Rep (w : World) (v : Value) (t : V) : Prop := ∃ sl, v = t.agg sl ∧ t.wf ∧ RepS w sl t.kids
theorem Cells5.keep {w w' : World} {b o : Nat} {t : V} {sl : Value} (h : Cells5 w b o t sl) (hb : w'.heap[b]? = w.heap[b]?) : Cells5 w' b o t sl := by
  obtain ⟨h0, h1, h2, h3, h4⟩ := h
  refine ⟨?_, ?_, ?_, ?_, ?_⟩
  · rw [World.cell?_of_block (w := w) (w' := w') hb]; exact h0
  · rw [World.cell?_of_block (w := w) (w' := w') hb]; exact h1
  · rw [World.cell?_of_block (w := w) (w' := w') hb]; exact h2
  · rw [World.cell?_of_block (w := w) (w' := w') hb]; exact h3
  · rw [World.cell?_of_block (w := w) (w' := w') hb]; exact h4
theorem RepS.keep {w w' : World} {v : Value} {ts : List V} (h : RepS w v ts) (hb : Below w.heap.size w w') : RepS w' v ts := by
  induction h with
  | mk a b off cap ts sls ha hc hm hbb cells wfs kids ih =>
    refine .mk a b off cap ts sls ha hc hm (fun hne => Nat.lt_of_lt_of_le (hbb hne) hb.size) ?_ wfs ih
    intro i hi
    exact (cells i hi).keep (hb.block b (hbb (by intro e; subst e; simp at hi)))
theorem RepS.slice {w : World} {v : Value} {ts : List V} (h : RepS w v ts) : ∃ a cap, v = .slice a ts.length cap := by
  cases h with
  | mk a b off cap ts0 sls ha hc hm hbb cells wfs kids => exact ⟨a, cap, rfl⟩
theorem Rep.keep {w w' : World} {v : Value} {t : V} (h : Rep w v t) (hb : Below w.heap.size w w') : Rep w' v t := by
  obtain ⟨sl, rfl, hw, hr⟩ := h
  exact ⟨sl, rfl, hw, hr.keep hb⟩
theorem szs_mem {t : V} {ts : List V} (h : t ∈ ts) : t.sz + 1 ≤ szs ts := by
  induction ts with
  | nil => cases h
  | cons u us ih =>
    rw [szs]
    cases h with
    | head => omega
    | tail _ h => have := ih h; omega
theorem szs_length (ts : List V) : ts.length ≤ szs ts := by
  induction ts with
  | nil => simp
  | cons u us ih => rw [szs, List.length_cons]; omega
theorem szs_append (a b : List V) : szs (a ++ b) = szs a + szs b := by
  induction a with
  | nil => simp [szs]
  | cons u us ih => rw [List.cons_append, szs, szs, ih]; omega
theorem V.sz_eq (t : V) : t.sz = t.s.size + szs t.kids := by cases t; rw [V.sz]; rfl
theorem V.eta (t : V) : V.mk t.k t.n t.e t.s t.kids = t := by cases t; rfl
theorem addr_add (a : Addr) (n : Nat) (h : a.spot = none) : a.add n = ⟨a.block, a.off + n, none⟩ := by
  cases a with
  | mk b o s => simp at h; subst h; unfold Addr.add; split <;> simp_all
end Go.Proofs.YtgbgeocmjdgmoaaDoor
namespace Go.Proofs.YtgbgeocmjdgmoaaDoor
set_option linter.unusedSimpArgs false
set_option linter.unusedVariables false
set_option maxRecDepth 100000
open Go.RowKit
def lcI : Nat → Int → Int
  | 0, h => h
  | n + 1, h => lcI n (h * 6364136223846793005 + 1442695040888963407)
theorem lcI_add : ∀ (n m : Nat) (h : Int), lcI (n + m) h = lcI m (lcI n h)
  | 0, m, h => by rw [Nat.zero_add]; rfl
  | n + 1, m, h => by rw [show n + 1 + m = (n + m) + 1 by omega, lcI, lcI, lcI_add n m]
theorem lcI_jump : ∀ k : Nat, ∃ b s q r : Int, (∀ h, lcI (2 ^ k) h = b * h + s * 1442695040888963407) ∧ b = 1 + 6364136223846793004 * s ∧ s = 2 ^ k * (2 * q + 1) ∧ b = 4 * r + 1
  | 0 => ⟨6364136223846793005, 1, 0, 1591034055961698251, fun h => by simp [lcI]; omega, by omega, by simp, by omega⟩
  | k + 1 => by
    obtain ⟨b, s, q, r, h1, h2, h3, h4⟩ := lcI_jump k
    refine ⟨b * b, s * (b + 1), 2 * q * r + q + r, 4 * r * r + 2 * r, fun h => ?_, ?_, ?_, ?_⟩
    · rw [show 2 ^ (k + 1) = 2 ^ k + 2 ^ k by rw [Nat.pow_succ]; omega, lcI_add, h1, h1, Int.mul_add, Int.mul_add, Int.mul_one, Int.add_mul, ← Int.mul_assoc, ← Int.mul_assoc, Int.mul_comm s b, Int.add_assoc]
    · have e : b * b = 1 + (b - 1) * (b + 1) := by rw [Int.sub_mul, Int.mul_add, Int.one_mul, Int.mul_one]; omega
      rw [e, show b - 1 = 6364136223846793004 * s by omega, Int.mul_assoc]
    · rw [h3, h4, Int.pow_succ, show 4 * r + 1 + 1 = 2 * (2 * r + 1) by omega, Int.mul_assoc, Int.mul_assoc, ← Int.mul_assoc (2 * q + 1) 2, Int.mul_comm (2 * q + 1) 2, Int.mul_assoc 2]
      congr 2
      rw [Int.mul_add, Int.add_mul, Int.mul_one, Int.one_mul]
      rw [show 2 * q * (2 * r) = 2 * (2 * q * r) by rw [Int.mul_assoc, Int.mul_assoc, Int.mul_left_comm q 2 r]]
      omega
    · rw [h4, Int.mul_add, Int.add_mul, Int.mul_one, Int.one_mul]
      rw [show 4 * r * (4 * r) = 4 * (4 * r * r) by rw [Int.mul_assoc, Int.mul_assoc, Int.mul_left_comm r 4 r]]
      omega
theorem lcI_reach (h t : Int) : ∀ k : Nat, ∃ (n : Nat) (m : Int), n < 2 ^ k ∧ lcI n h - t = 2 ^ k * m
  | 0 => ⟨0, h - t, by simp, by simp [lcI]⟩
  | k + 1 => by
    obtain ⟨n, m, hn, e⟩ := lcI_reach h t k
    have hp : 2 ^ (k + 1) = 2 ^ k + 2 ^ k := by rw [Nat.pow_succ]; omega
    rcases Int.emod_two_eq m with h2 | h2
    · refine ⟨n, m / 2, by omega, ?_⟩
      rw [e, Int.pow_succ, Int.mul_assoc]
      congr 1; omega
    · obtain ⟨b, s, q, r, h1, h2', h3, h4⟩ := lcI_jump k
      refine ⟨n + 2 ^ k, (m + (2 * q + 1) * (6364136223846793004 * lcI n h + 1442695040888963407)) / 2, by omega, ?_⟩
      rw [lcI_add, h1, h2', Int.add_mul, Int.one_mul]
      have e1 : lcI n h + 6364136223846793004 * s * lcI n h + s * 1442695040888963407 - t = 2 ^ k * (m + (2 * q + 1) * (6364136223846793004 * lcI n h + 1442695040888963407)) := by
        have e2 : 6364136223846793004 * s * lcI n h + s * 1442695040888963407 = 2 ^ k * ((2 * q + 1) * (6364136223846793004 * lcI n h + 1442695040888963407)) := by
          rw [← Int.mul_assoc, ← h3, Int.mul_add, Int.mul_comm 6364136223846793004 s, Int.mul_assoc]
        rw [Int.mul_add, ← e2, ← e]; omega
      rw [e1, Int.pow_succ, Int.mul_assoc]
      congr 1
      have e3 : (2 * q + 1) * (6364136223846793004 * lcI n h + 1442695040888963407) = 2 * (q * (6364136223846793004 * lcI n h + 1442695040888963407) + 3182068111923396502 * lcI n h + 721347520444481703) + 1 := by
        rw [Int.add_mul, Int.one_mul, Int.mul_assoc]; omega
      rw [e3]; omega
def lcT (h : Int) : Int := wrap64 (wrap64 (h * 6364136223846793005) + 1442695040888963407)
def lcN : Nat → Int → Int
  | 0, h => h
  | n + 1, h => lcN n (lcT h)
theorem lcT_in (h : Int) : In64 (lcT h) := by unfold lcT wrap64 In64; omega
theorem lcN_add : ∀ (n m : Nat) (h : Int), lcN (n + m) h = lcN m (lcN n h)
  | 0, m, h => by rw [Nat.zero_add]; rfl
  | n + 1, m, h => by rw [show n + 1 + m = (n + m) + 1 by omega, lcN, lcN, lcN_add n m]
theorem lcN_succ (n : Nat) (h : Int) : lcN (n + 1) h = lcT (lcN n h) := by rw [lcN_add n 1]; rfl
theorem lcN_mod : ∀ (n : Nat) (h h' : Int), (∃ m, h - h' = 18446744073709551616 * m) → ∃ m, lcN n h - lcI n h' = 18446744073709551616 * m
  | 0, h, h', e => e
  | n + 1, h, h', ⟨m, e⟩ => by
    rw [lcN, lcI]
    refine lcN_mod n _ _ ⟨?_, ?_⟩
    · exact m * 6364136223846793005 + ((lcT h - (h * 6364136223846793005 + 1442695040888963407)) / 18446744073709551616)
    · have e1 : h * 6364136223846793005 = h' * 6364136223846793005 + 18446744073709551616 * (m * 6364136223846793005) := by
        rw [show h = h' + 18446744073709551616 * m by omega, Int.add_mul, Int.mul_assoc]
      unfold lcT wrap64
      omega
theorem lcN_in {n : Nat} {h : Int} (hh : In64 h) : In64 (lcN n h) := by
  cases n with
  | zero => exact hh
  | succ n => rw [lcN_succ]; exact lcT_in _
theorem lc_reach {h t : Int} (ht : In64 t) (hh : In64 h) : ∃ n, n < 18446744073709551616 ∧ lcN n h = t := by
  obtain ⟨n, m, hn, e⟩ := lcI_reach h t 64
  obtain ⟨m2, e2⟩ := lcN_mod n h h ⟨0, by omega⟩
  have h3 := lcN_in (n := n) hh
  refine ⟨n, hn, ?_⟩
  have e3 : (2 : Int) ^ 64 = 18446744073709551616 := by decide
  rw [e3] at e
  unfold In64 at *
  omega
end Go.Proofs.YtgbgeocmjdgmoaaDoor
namespace Go.Proofs.YtgbgeocmjdgmoaaDoor
set_option linter.unusedSimpArgs false
set_option linter.unusedVariables false
set_option maxRecDepth 100000
open Go.RowKit
inductive OwnS (w : World) : (Nat → Prop) → Value → List V → Prop
  | mk (F : Nat → Prop) (a : Option Addr) (b off cap : Nat) (ts : List V) (sls : Nat → Value) (Fs : Nat → Nat → Prop) (ha : ts ≠ [] → a = some ⟨b, off, none⟩) (hc : ts.length ≤ cap) (hm : cap ≤ 9223372036854775807)
      (hb : ts ≠ [] → F b ∧ ∃ cur e, w.heap[b]? = some (.cells cur e (0, 0)))
      (hF : ∀ i, i < ts.length → ∀ x, Fs i x → F x ∧ x ≠ b) (hd : ∀ i j, i < j → j < ts.length → ∀ x, Fs i x → ¬ Fs j x)
      (cells : ∀ i (h : i < ts.length), Cells5 w b (off + i * 5) ts[i] (sls i)) (wfs : ∀ i (h : i < ts.length), ts[i].wf)
      (kids : ∀ i (h : i < ts.length), OwnS w (Fs i) (sls i) ts[i].kids) : OwnS w F (.slice a ts.length cap) ts
theorem lt_of_heap {w : World} {b : Nat} {o : Obj} (h : w.heap[b]? = some o) : b < w.heap.size := by
  rcases Nat.lt_or_ge b w.heap.size with h1 | h1
  · exact h1
  · rw [Array.getElem?_eq_none h1] at h; cases h
theorem OwnS.rep {w : World} {F : Nat → Prop} {v : Value} {ts : List V} (h : OwnS w F v ts) : RepS w v ts := by
  induction h with
  | mk F a b off cap ts sls Fs ha hc hm hb hF hd cells wfs kids ih =>
    exact .mk a b off cap ts sls ha hc hm (fun hne => by obtain ⟨_, cur, e, h⟩ := hb hne; exact lt_of_heap h) cells wfs ih
theorem OwnS.mono {w : World} {F F' : Nat → Prop} {v : Value} {ts : List V} (h : OwnS w F v ts) (hF : ∀ x, F x → F' x) : OwnS w F' v ts := by
  cases h with
  | mk F0 a b off cap ts0 sls Fs ha hc hm hb hFF hd cells wfs kids =>
    exact .mk F' a b off cap ts sls Fs ha hc hm (fun hne => ⟨hF _ (hb hne).1, (hb hne).2⟩) (fun i hi x hx => ⟨hF _ (hFF i hi x hx).1, (hFF i hi x hx).2⟩) hd cells wfs kids
theorem OwnS.keep {w w' : World} {F : Nat → Prop} {v : Value} {ts : List V} (h : OwnS w F v ts) (hk : ∀ x, F x → x < w.heap.size → w'.heap[x]? = w.heap[x]?) : OwnS w' F v ts := by
  induction h with
  | mk F a b off cap ts sls Fs ha hc hm hb hF hd cells wfs kids ih =>
    have e : ts ≠ [] → w'.heap[b]? = w.heap[b]? := fun hne => by obtain ⟨h1, cur, e, h2⟩ := hb hne; exact hk b h1 (lt_of_heap h2)
    refine .mk F a b off cap ts sls Fs ha hc hm (fun hne => ⟨(hb hne).1, by rw [e hne]; exact (hb hne).2⟩) hF hd ?_ wfs (fun i hi => ih i hi (fun x hx hxs => hk x (hF i hi x hx).1 hxs))
    intro i hi
    exact (cells i hi).keep (e (by intro e; subst e; simp at hi))
theorem OwnS.bound {w : World} {F : Nat → Prop} {v : Value} {ts : List V} (h : OwnS w F v ts) : OwnS w (fun x => F x ∧ x < w.heap.size) v ts := by
  induction h with
  | mk F a b off cap ts sls Fs ha hc hm hb hF hd cells wfs kids ih =>
    refine .mk _ a b off cap ts sls (fun i x => Fs i x ∧ x < w.heap.size) ha hc hm (fun hne => ⟨⟨(hb hne).1, ?_⟩, (hb hne).2⟩) (fun i hi x hx => ⟨⟨(hF i hi x hx.1).1, hx.2⟩, (hF i hi x hx.1).2⟩) (fun i j hij hj x hx hx' => hd i j hij hj x hx.1 hx'.1) cells wfs ih
    obtain ⟨_, cur, e, h⟩ := hb hne; exact lt_of_heap h
theorem OwnS.stay {w w' : World} {B : Nat} {v : Value} {ts : List V} (h : OwnS w (fun x => B ≤ x) v ts) (hb : Below w.heap.size w w') : OwnS w' (fun x => B ≤ x) v ts :=
  h.keep (fun x _ hx => hb.block x hx)
theorem OwnS.set {w : World} {F : Nat → Prop} {v : Value} {ts : List V} (h : OwnS w F v ts) (p : Addr) (u : Value) (hp : ¬ F p.block) : OwnS (w.setCell p u) F v ts :=
  h.keep (fun x hx _ => Below.heap_setCell _ _ _ _ (fun e => hp (e ▸ hx)))
theorem OwnS.alloc {w : World} {F : Nat → Prop} {v : Value} {ts : List V} (h : OwnS w F v ts) (o : Obj) : OwnS (w.alloc o) F v ts :=
  h.keep (fun x _ hs => Below.heap_alloc _ _ _ hs)
theorem OwnS.drew {w : World} {F : Nat → Prop} {v : Value} {ts : List V} (h : OwnS w F v ts) : OwnS w.drew F v ts :=
  h.keep (fun _ _ _ => rfl)
theorem OwnS.nil (w : World) (F : Nat → Prop) : OwnS w F (.slice none 0 0) [] :=
  .mk F none 0 0 0 [] (fun _ => .nilIface) (fun _ _ => False) (by simp) (by simp) (by omega) (by simp) (by simp) (by simp) (by simp) (by simp) (by simp)
theorem OwnS.slice {w : World} {F : Nat → Prop} {v : Value} {ts : List V} (h : OwnS w F v ts) : ∃ a cap, v = .slice a ts.length cap := by
  cases h with
  | mk F0 a b off cap ts0 sls Fs ha hc hm hb hFF hd cells wfs kids => exact ⟨a, cap, rfl⟩
def flat : List V → List Value → List Value
  | t :: ts, sl :: sls => .int .i64 t.k :: .int .i64 t.n :: .int .i64 t.e :: .string t.s :: sl :: flat ts sls
  | _, _ => []
theorem flat_length : ∀ (ts : List V) (sls : List Value), sls.length = ts.length → (flat ts sls).length = ts.length * 5
  | [], _, _ => by simp [flat]
  | t :: ts, [], h => by simp at h
  | t :: ts, sl :: sls, h => by simp only [flat, List.length_cons] at *; rw [flat_length ts sls (by omega)]; omega
theorem flat_append : ∀ (ts us : List V) (sls sms : List Value), sls.length = ts.length → flat (ts ++ us) (sls ++ sms) = flat ts sls ++ flat us sms
  | [], us, [], sms, _ => by simp [flat]
  | [], us, _ :: _, sms, h => by simp at h
  | t :: ts, us, [], sms, h => by simp at h
  | t :: ts, us, sl :: sls, sms, h => by simp only [flat, List.cons_append]; rw [flat_append ts us sls sms (by simpa using h)]
theorem flat_get : ∀ (ts : List V) (sls : List Value) (i : Nat) (h : i < ts.length) (h2 : i < sls.length),
    (flat ts sls)[i * 5]? = some (.int .i64 ts[i].k) ∧ (flat ts sls)[i * 5 + 1]? = some (.int .i64 ts[i].n) ∧ (flat ts sls)[i * 5 + 2]? = some (.int .i64 ts[i].e) ∧ (flat ts sls)[i * 5 + 3]? = some (.string ts[i].s) ∧ (flat ts sls)[i * 5 + 4]? = some sls[i]
  | [], _, i, h, _ => by simp at h
  | t :: ts, [], i, _, h => by simp at h
  | t :: ts, sl :: sls, 0, _, _ => by simp [flat]
  | t :: ts, sl :: sls, i + 1, h, h2 => by
    have := flat_get ts sls i (by simpa using h) (by simpa using h2)
    simp only [flat, show (i + 1) * 5 = i * 5 + 5 by omega]
    simpa using this
structure VRow (w : World) (base : Nat) (E : TypeId) (G : Nat → Prop) (v : Value) (ts : List V) (sls : List Value) (Fs : Nat → Nat → Prop) : Prop where
  row : w.ownsRow base E 5 v ts.length (flat ts sls)
  len : sls.length = ts.length
  wfs : ∀ i (h : i < ts.length), ts[i].wf
  kids : ∀ i (h : i < ts.length), OwnS w (Fs i) (sls.getD i undef) ts[i].kids
  sub : ∀ i, i < ts.length → ∀ x, Fs i x → G x
  dis : ∀ i j, i < j → j < ts.length → ∀ x, Fs i x → ¬ Fs j x
  own : ∀ g, v.ownBlock = some g → ¬ G g
  inG : ∀ x, G x → base ≤ x ∧ x < w.heap.size
def VRows (w : World) (base : Nat) (E : TypeId) (G : Nat → Prop) (v : Value) (ts : List V) : Prop := ∃ sls Fs, VRow w base E G v ts sls Fs
theorem VRows.own {w : World} {base : Nat} {E : TypeId} {G : Nat → Prop} {v : Value} {ts : List V} (h : VRows w base E G v ts) : OwnS w (fun x => base ≤ x) v ts := by
  obtain ⟨sls, Fs, h⟩ := h
  rcases h.row.2 with ⟨rfl, hn⟩ | ⟨g, cap, cur, rfl, hbg, hg, hnc, hcm, hcs, htake⟩
  · obtain rfl : ts = [] := List.eq_nil_of_length_eq_zero hn
    exact OwnS.nil _ _
  · have hcell : ∀ j u, (flat ts sls)[j]? = some u → w.cell? ⟨g, j, none⟩ = some u := by
      intro j u hu
      have := h.row.cells (g := g) rfl j u hu
      rwa [addr_add _ _ rfl, Nat.zero_add] at this
    refine .mk _ (some ⟨g, 0, none⟩) g 0 cap ts (fun i => sls.getD i undef) Fs (fun _ => rfl) hnc (by simpa [maxLen] using hcm) (fun _ => ⟨hbg, cur, E, hg⟩) ?_ h.dis ?_ h.wfs h.kids
    · intro i hi x hx
      have hG := h.sub i hi x hx
      exact ⟨(h.inG x hG).1, by intro e; subst e; exact h.own x rfl hG⟩
    · intro i hi
      have hi2 : i < sls.length := by rw [h.len]; exact hi
      obtain ⟨h0, h1, h2, h3, h4⟩ := flat_get ts sls i hi hi2
      rw [Nat.zero_add, List.getD_eq_getElem?_getD, List.getElem?_eq_getElem hi2]
      exact ⟨hcell _ _ h0, hcell _ _ h1, hcell _ _ h2, hcell _ _ h3, hcell _ _ h4⟩
theorem VRows.inG {w : World} {base : Nat} {E : TypeId} {G : Nat → Prop} {v : Value} {ts : List V} (h : VRows w base E G v ts) : ∀ x, G x → base ≤ x ∧ x < w.heap.size := by
  obtain ⟨sls, Fs, h⟩ := h; exact h.inG
theorem VRows.nil (w : World) (base : Nat) (E : TypeId) : VRows w base E (fun _ => False) (.slice none 0 0) [] :=
  ⟨[], fun _ _ => False, ⟨World.ownsRow_nil w base E 5, rfl, by simp, by simp, by simp, by simp, by simp, by simp⟩⟩
theorem VRows.lt {w : World} {base : Nat} {E : TypeId} {G : Nat → Prop} {v : Value} {ts : List V} (h : VRows w base E G v ts) : ∀ k, v.ownBlock = some k → base ≤ k ∧ k < w.heap.size := by
  obtain ⟨sls, Fs, h⟩ := h; exact h.row.lt
theorem VRows.keep {w w' : World} {base : Nat} {E : TypeId} {G : Nat → Prop} {v : Value} {ts : List V} (h : VRows w base E G v ts) (hb : Below w.heap.size w w') : VRows w' base E G v ts := by
  obtain ⟨sls, Fs, h⟩ := h
  refine ⟨sls, Fs, ⟨h.row.kept (row := none) ⟨hb.os, hb.tape, hb.output, hb.size, fun k hk _ => hb.block k hk⟩ ?_, h.len, h.wfs, fun i hi => (h.kids i hi).keep (fun x _ hx => hb.block x hx), h.sub, h.dis, h.own, fun x hx => ⟨(h.inG x hx).1, Nat.lt_of_lt_of_le (h.inG x hx).2 hb.size⟩⟩⟩
  cases v.ownBlock <;> simp
theorem VRows.snoc {w w' : World} {base : Nat} {E : TypeId} {G F : Nat → Prop} {v v' : Value} {ts : List V} {t : V} {sl : Value} (h : VRows w base E G v ts) (ht : t.wf) (ho : OwnS w F sl t.kids)
    (hF : ∀ x, F x → base ≤ x ∧ x < w.heap.size ∧ ¬ G x ∧ v.ownBlock ≠ some x)
    (hrow : ∀ sls, w.ownsRow base E 5 v ts.length (flat ts sls) → w'.ownsRow base E 5 v' (ts.length + 1) (flat ts sls ++ flat [t] [sl])) (hg : w.grownBy w' v.ownBlock) (hfr : FreshOr w v v') :
    VRows w' base E (fun x => G x ∨ F x) v' (ts ++ [t]) := by
  obtain ⟨sls, Fs, h⟩ := h
  have hk : ∀ x, (G x ∨ F x) → x < w.heap.size → w'.heap[x]? = w.heap[x]? := by
    intro x hx hs
    refine hg.block x hs (fun e => ?_)
    rcases hx with hx | hx
    · exact h.own x e.symm hx
    · exact (hF x hx).2.2.2 e.symm
  refine ⟨sls ++ [sl], fun i => if i < ts.length then Fs i else F, ?_, by simp [h.len], ?_, ?_, ?_, ?_, ?_, ?_⟩
  · rw [flat_append _ _ _ _ h.len, List.length_append]; exact hrow sls h.row
  · intro i hi
    rw [List.length_append] at hi
    by_cases hlt : i < ts.length
    · rw [List.getElem_append_left hlt]; exact h.wfs i hlt
    · have : i = ts.length := by simp at hi; omega
      subst this; simpa using ht
  · intro i hi
    rw [List.length_append] at hi
    by_cases hlt : i < ts.length
    · have h1 := h.kids i hlt
      rw [if_pos hlt, List.getElem_append_left hlt]
      have : (sls ++ [sl]).getD i undef = sls.getD i undef := by
        rw [List.getD_eq_getElem?_getD, List.getD_eq_getElem?_getD, List.getElem?_append_left (by rw [h.len]; exact hlt)]
      rw [this]
      exact h1.keep (fun x hx hs => hk x (.inl (h.sub i hlt x hx)) hs)
    · have : i = ts.length := by simp at hi; omega
      subst this
      have e : (sls ++ [sl]).getD ts.length undef = sl := by rw [List.getD_eq_getElem?_getD, ← h.len]; simp
      rw [if_neg hlt, e]
      simpa using ho.keep (fun x hx hs => hk x (.inr hx) hs)
  · intro i hi x hx
    by_cases hlt : i < ts.length
    · simp only [if_pos hlt] at hx; exact .inl (h.sub i hlt x hx)
    · simp only [if_neg hlt] at hx; exact .inr hx
  · intro i j hij hj x hx hx'
    rw [List.length_append] at hj
    have hi : i < ts.length := by simp at hj; omega
    simp only [if_pos hi] at hx
    by_cases hlt : j < ts.length
    · simp only [if_pos hlt] at hx'; exact h.dis i j hij hlt x hx hx'
    · simp only [if_neg hlt] at hx'; exact (hF x hx').2.2.1 (h.sub i hi x hx)
  · intro g hg' hG
    rcases hfr with e | e
    · rw [e] at hg'
      rcases hG with hG | hG
      · exact h.own g hg' hG
      · exact (hF g hG).2.2.2 hg'
    · rw [e] at hg'
      simp only [Option.some.injEq] at hg'
      subst hg'
      rcases hG with hG | hG
      · have := (h.inG _ hG).2; omega
      · have := (hF _ hG).2.1; omega
  · intro x hx
    rcases hx with hx | hx
    · exact ⟨(h.inG x hx).1, Nat.lt_of_lt_of_le (h.inG x hx).2 hg.size⟩
    · exact ⟨(hF x hx).1, Nat.lt_of_lt_of_le (hF x hx).2.1 hg.size⟩
theorem flat_set : ∀ (ts : List V) (sls : List Value) (i : Nat) (t : V) (sl : Value), i < ts.length → sls.length = ts.length →
    (((((flat ts sls).set (i * 5) (.int .i64 t.k)).set (i * 5 + 1) (.int .i64 t.n)).set (i * 5 + 2) (.int .i64 t.e)).set (i * 5 + 3) (.string t.s)).set (i * 5 + 4) sl = flat (ts.set i t) (sls.set i sl)
  | [], _, i, _, _, h, _ => by simp at h
  | u :: ts, [], i, _, _, _, h => by simp at h
  | u :: ts, sm :: sls, 0, t, sl, _, _ => by simp [flat]
  | u :: ts, sm :: sls, i + 1, t, sl, h, h2 => by
    have := flat_set ts sls i t sl (by simpa using h) (by simpa using h2)
    simp only [flat, List.set_cons_succ, show (i + 1) * 5 = i * 5 + 5 by omega, show i * 5 + 5 + 1 = i * 5 + 1 + 5 by omega, show i * 5 + 5 + 2 = i * 5 + 2 + 5 by omega, show i * 5 + 5 + 3 = i * 5 + 3 + 5 by omega, show i * 5 + 5 + 4 = i * 5 + 4 + 5 by omega]
    rw [this]
def put5 (w : World) (g o : Nat) (t : V) (sl : Value) : World :=
  ((((w.setCell ⟨g, o, none⟩ (.int .i64 t.k)).setCell ⟨g, o + 1, none⟩ (.int .i64 t.n)).setCell ⟨g, o + 2, none⟩ (.int .i64 t.e)).setCell ⟨g, o + 3, none⟩ (.string t.s)).setCell ⟨g, o + 4, none⟩ sl
theorem grownBy_cell (w : World) (g o : Nat) (u : Value) : w.grownBy (w.setCell ⟨g, o, none⟩ u) (some g) :=
  ⟨rfl, rfl, rfl, by simp, fun k _ hne => heap_setCell_other w ⟨g, o, none⟩ k u (fun e => hne (by rw [e]))⟩
theorem grownBy_trans {a b c : World} {r : Option Nat} (h : a.grownBy b r) (k : b.grownBy c r) : a.grownBy c r :=
  ⟨k.os.trans h.os, k.tape.trans h.tape, k.output.trans h.output, Nat.le_trans h.size k.size, fun i hi hr => (k.block i (Nat.lt_of_lt_of_le hi h.size) hr).trans (h.block i hi hr)⟩
theorem grownBy_put5 (w : World) (g o : Nat) (t : V) (sl : Value) : w.grownBy (put5 w g o t sl) (some g) :=
  grownBy_trans (grownBy_trans (grownBy_trans (grownBy_trans (grownBy_cell _ _ _ _) (grownBy_cell _ _ _ _)) (grownBy_cell _ _ _ _)) (grownBy_cell _ _ _ _)) (grownBy_cell _ _ _ _)
theorem VRows.set {w : World} {base : Nat} {E : TypeId} {G F : Nat → Prop} {g n cap i : Nat} {ts : List V} {t : V} {sl : Value} (h : VRows w base E G (.slice (some ⟨g, 0, none⟩) n cap) ts) (hi : i < ts.length) (ht : t.wf) (ho : OwnS w F sl t.kids)
    (hF : ∀ x, F x → base ≤ x ∧ x < w.heap.size ∧ ¬ G x ∧ x ≠ g) :
    VRows (put5 w g (i * 5) t sl) base E (fun x => G x ∨ F x) (.slice (some ⟨g, 0, none⟩) n cap) (ts.set i t) := by
  obtain ⟨sls, Fs, h⟩ := h
  have hn : n = ts.length := by
    rcases h.row.2 with ⟨h', _⟩ | ⟨g', cap', cur, h', _⟩ <;> simp at h'; exact h'.2.1
  subst hn
  have hgr := grownBy_put5 w g (i * 5) t sl
  have hk : ∀ x, (G x ∨ F x) → x < w.heap.size → (put5 w g (i * 5) t sl).heap[x]? = w.heap[x]? := by
    intro x hx hs
    refine hgr.block x hs (fun e => ?_)
    simp only [Option.some.injEq] at e
    rcases hx with hx | hx
    · exact h.own x (by rw [e]; rfl) hx
    · exact (hF x hx).2.2.2 e
  refine ⟨sls.set i sl, fun j => if j = i then F else Fs j, ?_, by simp [h.len], ?_, ?_, ?_, ?_, ?_, ?_⟩
  · rw [List.length_set, ← flat_set ts sls i t sl hi h.len]
    exact ((((((h.row.stored (i * 5) (.int .i64 t.k)).1).stored (i * 5 + 1) (.int .i64 t.n)).1.stored (i * 5 + 2) (.int .i64 t.e)).1.stored (i * 5 + 3) (.string t.s)).1.stored (i * 5 + 4) sl).1
  · intro j hj
    rw [List.getElem_set]
    split
    · exact ht
    · exact h.wfs j (by simpa using hj)
  · intro j hj
    have hj' : j < ts.length := by simpa using hj
    rw [List.getElem_set]
    by_cases hji : j = i
    · subst hji
      have e : (sls.set j sl).getD j undef = sl := by rw [List.getD_eq_getElem?_getD, List.getElem?_set_self (by rw [h.len]; exact hj')]; rfl
      rw [if_pos rfl, e, if_pos rfl]
      exact ho.keep (fun x hx hs => hk x (.inr hx) hs)
    · have e : (sls.set i sl).getD j undef = sls.getD j undef := by rw [List.getD_eq_getElem?_getD, List.getD_eq_getElem?_getD, List.getElem?_set_ne (fun e => hji e.symm)]
      rw [if_neg hji, e, if_neg (fun e => hji e.symm)]
      exact (h.kids j hj').keep (fun x hx hs => hk x (.inl (h.sub j hj' x hx)) hs)
  · intro j hj x hx
    have hj' : j < ts.length := by simpa using hj
    by_cases hji : j = i
    · simp only [if_pos hji] at hx; exact .inr hx
    · simp only [if_neg hji] at hx; exact .inl (h.sub j hj' x hx)
  · intro j k hjk hk' x hx hx'
    have hk2 : k < ts.length := by simpa using hk'
    by_cases hji : j = i
    · simp only [if_pos hji] at hx
      have hki : ¬ k = i := by omega
      simp only [if_neg hki] at hx'
      exact (hF x hx).2.2.1 (h.sub k hk2 x hx')
    · simp only [if_neg hji] at hx
      by_cases hki : k = i
      · simp only [if_pos hki] at hx'
        exact (hF x hx').2.2.1 (h.sub j (by omega) x hx)
      · simp only [if_neg hki] at hx'
        exact h.dis j k hjk hk2 x hx hx'
  · intro q hq hG
    rcases hG with hG | hG
    · exact h.own q hq hG
    · simp [Value.ownBlock] at hq; exact (hF q hG).2.2.2 hq.symm
  · intro x hx
    rcases hx with hx | hx
    · exact ⟨(h.inG x hx).1, Nat.lt_of_lt_of_le (h.inG x hx).2 hgr.size⟩
    · exact ⟨(hF x hx).1, Nat.lt_of_lt_of_le (hF x hx).2.1 hgr.size⟩
def V0 : V := .mk 0 0 0 ⟨#[]⟩ []
theorem made_flat (n : Nat) : (madeCells #[.int .i64 0, .int .i64 0, .int .i64 0, .string ⟨#[]⟩, .slice none 0 0] (n * 5)).toList = flat (List.replicate n V0) (List.replicate n (.slice none 0 0)) := by
  apply List.ext_getElem?
  intro j
  by_cases hj : j < n * 5
  · have h := flat_get (List.replicate n V0) (List.replicate n (.slice none 0 0)) (j / 5) (by simp; omega) (by simp; omega)
    simp only [List.getElem_replicate] at h
    have h5 : j % 5 < 5 := Nat.mod_lt _ (by decide)
    have hm : (madeCells #[Value.int .i64 0, .int .i64 0, .int .i64 0, .string ⟨#[]⟩, .slice none 0 0] (n * 5)).toList[j]? = some ((#[Value.int .i64 0, .int .i64 0, .int .i64 0, .string ⟨#[]⟩, .slice none 0 0] : Array Value)[j % 5]'(by simpa using h5)) := by
      simp [madeCells, hj, h5]
    rw [hm]
    have hjj : j = j / 5 * 5 + j % 5 := by omega
    generalize j / 5 = q at *
    generalize hr : j % 5 = r at *
    subst hjj
    match r, h5 with
    | 0, _ => exact h.1.symm
    | 1, _ => rw [h.2.1]; rfl
    | 2, _ => rw [h.2.2.1]; rfl
    | 3, _ => rw [h.2.2.2.1]; rfl
    | 4, _ => rw [h.2.2.2.2]; rfl
  · rw [List.getElem?_eq_none (by simp [madeCells]; omega), List.getElem?_eq_none (by rw [flat_length _ _ (by simp)]; simp; omega)]
theorem VRows.made {w : World} {base : Nat} {E : TypeId} {g n cap : Nat} (h : w.ownsRow base E 5 (.slice (some ⟨g, 0, none⟩) n cap) n (madeCells #[.int .i64 0, .int .i64 0, .int .i64 0, .string ⟨#[]⟩, .slice none 0 0] (n * 5)).toList) :
    VRows w base E (fun _ => False) (.slice (some ⟨g, 0, none⟩) n cap) (List.replicate n V0) := by
  refine ⟨List.replicate n (.slice none 0 0), fun _ _ => False, ⟨by rw [← made_flat]; simpa using h, by simp, ?_, ?_, by simp, by simp, by simp, by simp⟩⟩
  · intro i hi; simp [V0, V.wf, In64, V.k, V.n, V.e, V.s, ByteArray.size]
  · intro i hi
    simp at hi
    rw [List.getD_eq_getElem?_getD, List.getElem?_eq_getElem (by simpa using hi)]
    simp [V0, V.kids]
    exact OwnS.nil _ _
theorem VRows.cells {w : World} {base : Nat} {E : TypeId} {G : Nat → Prop} {g n cap i : Nat} {ts : List V} (h : VRows w base E G (.slice (some ⟨g, 0, none⟩) n cap) ts) (hi : i < ts.length) :
    ∃ sl, Cells5 w g (i * 5) ts[i] sl ∧ ∀ o, w.frozen? ⟨g, o, none⟩ = false := by
  obtain ⟨sls, Fs, h⟩ := h
  have hi2 : i < sls.length := by rw [h.len]; exact hi
  obtain ⟨h0, h1, h2, h3, h4⟩ := flat_get ts sls i hi hi2
  have hcell : ∀ j u, (flat ts sls)[j]? = some u → w.cell? ⟨g, j, none⟩ = some u := by
    intro j u hu
    have := h.row.cells (g := g) rfl j u hu
    rwa [addr_add _ _ rfl, Nat.zero_add] at this
  have hn : n = ts.length := by
    rcases h.row.2 with ⟨h', _⟩ | ⟨g', cap', cur, h', _⟩ <;> simp at h'; exact h'.2.1
  subst hn
  exact ⟨sls[i], ⟨hcell _ _ h0, hcell _ _ h1, hcell _ _ h2, hcell _ _ h3, hcell _ _ h4⟩, fun o => h.row.frozenAt o⟩
end Go.Proofs.YtgbgeocmjdgmoaaDoor
namespace Go.Proofs.YtgbgeocmjdgmoaaDoor
set_option linter.unusedSimpArgs false
set_option linter.unusedVariables false
set_option maxRecDepth 100000
open Go.RowKit
structure Touch (A A' : Nat → Prop) (w w' : World) : Prop where
  os : w'.os = w.os
  tape : w'.tape = w.tape
  output : w'.output = w.output
  size : w.heap.size ≤ w'.heap.size
  block : ∀ k, k < w.heap.size → ¬ A k → w'.heap[k]? = w.heap[k]?
  new : ∀ k, A' k → A k ∨ w.heap.size ≤ k
theorem Touch.trans {A A' A'' : Nat → Prop} {a b c : World} (h : Touch A A' a b) (k : Touch A' A'' b c) : Touch A A'' a c :=
  ⟨k.os.trans h.os, k.tape.trans h.tape, k.output.trans h.output, Nat.le_trans h.size k.size,
    fun i hi hn => (k.block i (Nat.lt_of_lt_of_le hi h.size) (fun e => (h.new i e).elim hn (fun e => by omega))).trans (h.block i hi hn),
    fun i hi => (k.new i hi).elim (fun e => h.new i e) (fun e => .inr (Nat.le_trans h.size e))⟩
theorem Touch.of_below {A : Nat → Prop} {w w' : World} (h : Below w.heap.size w w') : Touch A A w w' :=
  ⟨h.os, h.tape, h.output, h.size, fun k hk _ => h.block k hk, fun _ h => .inl h⟩
theorem Touch.refl (A : Nat → Prop) (w : World) : Touch A A w w := .of_below (Below.refl _ _)
theorem Touch.below {A A' : Nat → Prop} {w w' : World} {B : Nat} (h : Touch A A' w w') (hA : ∀ x, A x → B ≤ x) (hB : B ≤ w.heap.size) : Below B w w' :=
  ⟨h.os, h.tape, h.output, h.size, fun k hk => h.block k (by omega) (fun e => by have := hA k e; omega)⟩
end Go.Proofs.YtgbgeocmjdgmoaaDoor
namespace Go.Proofs.YtgbgeocmjdgmoaaDoor
set_option linter.unusedSimpArgs false
set_option linter.unusedVariables false
set_option maxRecDepth 100000
open Go.RowKit
theorem OwnS.form {w : World} {F : Nat → Prop} {v : Value} {ts : List V} (h : OwnS w F v ts) : ∃ a b off cap, v = .slice a ts.length cap ∧ (ts ≠ [] → a = some ⟨b, off, none⟩) ∧ ts.length ≤ cap ∧ cap ≤ 9223372036854775807 := by
  cases h with
  | mk F0 a b off cap ts0 sls Fs ha hc hm hb hF hd cells wfs kids => exact ⟨a, b, off, cap, rfl, ha, hc, hm⟩
theorem touch_cell {F : Nat → Prop} (w : World) (b o : Nat) (u : Value) (h : F b) : Touch F F w (w.setCell ⟨b, o, none⟩ u) :=
  ⟨rfl, rfl, rfl, by simp, fun k _ hn => heap_setCell_other w ⟨b, o, none⟩ k u (fun e => hn (e ▸ h)), fun _ h => .inl h⟩
theorem Touch.mono {A A' B : Nat → Prop} {w w' : World} (h : Touch A A' w w') (hA : ∀ x, A x → B x) (hA' : ∀ x, A' x → B x ∨ A x) : Touch B B w w' :=
  ⟨h.os, h.tape, h.output, h.size, fun k hk hn => h.block k hk (fun e => hn (hA k e)), fun k hk => .inl hk⟩
end Go.Proofs.YtgbgeocmjdgmoaaDoor
namespace Go.Proofs.YtgbgeocmjdgmoaaDoor
set_option linter.unusedSimpArgs false
set_option linter.unusedVariables false
set_option maxRecDepth 100000
open Go.RowKit
theorem l01In_yes (n lo hi : Int) (w : World) (h1 : lo ≤ n) (h2 : n ≤ hi) :
    Calls Tryd.prog 102 #[.int .i64 n, .int .i64 lo, .int .i64 hi] w fun e w' => e = .returned (.bool true) ∧ w' = w := by
  go_enter Tryd.func102, Tryd.ntmps102
  go_wp2
  go_ret
  exact ⟨rfl, rfl⟩
theorem l01In_no (n lo hi : Int) (w : World) (h : n < lo ∨ hi < n) :
    Calls Tryd.prog 102 #[.int .i64 n, .int .i64 lo, .int .i64 hi] w fun e w' => e = .returned (.bool false) ∧ w' = w := by
  by_cases h1 : lo ≤ n
  · have h2 : ¬ n ≤ hi := by omega
    clear h
    go_enter Tryd.func102, Tryd.ntmps102
    go_wp2
    go_ret
    exact ⟨rfl, rfl⟩
  · clear h
    go_enter Tryd.func102, Tryd.ntmps102
    go_wp2
    go_ret
    exact ⟨rfl, rfl⟩
theorem within_yes (n lo hi : Int) (w : World) (h1 : lo ≤ n) (h2 : n ≤ hi) :
    Calls Tryd.prog 105 #[.int .i64 n, .int .i64 lo, .int .i64 hi] w fun e w' => e = .returned (.bool true) ∧ w' = w := by
  go_enter Tryd.func105, Tryd.ntmps105
  go_wp2
  go_ret
  exact ⟨rfl, rfl⟩
theorem within_no (n lo hi : Int) (w : World) (h : n < lo ∨ hi < n) :
    Calls Tryd.prog 105 #[.int .i64 n, .int .i64 lo, .int .i64 hi] w fun e w' => e = .returned (.bool false) ∧ w' = w := by
  by_cases h1 : lo ≤ n
  · have h2 : ¬ n ≤ hi := by omega
    clear h
    go_enter Tryd.func105, Tryd.ntmps105
    go_wp2
    go_ret
    exact ⟨rfl, rfl⟩
  · clear h
    go_enter Tryd.func105, Tryd.ntmps105
    go_wp2
    go_ret
    exact ⟨rfl, rfl⟩
end Go.Proofs.YtgbgeocmjdgmoaaDoor
namespace Go.Proofs.YtgbgeocmjdgmoaaDoor
set_option linter.unusedSimpArgs false
set_option linter.unusedVariables false
set_option maxRecDepth 100000
open Go.RowKit
def headL (major n : Nat) : List UInt8 :=
  if n < 24 then [UInt8.ofNat (32 * major + n)]
  else if n < 256 then UInt8.ofNat (32 * major + 24) :: big 1 n
  else if n < 65536 then UInt8.ofNat (32 * major + 25) :: big 2 n
  else if n < 4294967296 then UInt8.ofNat (32 * major + 26) :: big 4 n
  else UInt8.ofNat (32 * major + 27) :: big 8 n
theorem headL_length (major n : Nat) : (headL major n).length = if n < 24 then 1 else if n < 256 then 2 else if n < 65536 then 3 else if n < 4294967296 then 5 else 9 := by
  unfold headL; repeat' split
  all_goals simp [big_length]
theorem headL_le (major n : Nat) : (headL major n).length ≤ 9 := by rw [headL_length]; (repeat' split) <;> omega
theorem big_one (n : Nat) : big 1 n = [UInt8.ofNat n] := by simp [big]
set_option maxRecDepth 100000 in
set_option maxHeartbeats 400000 in
theorem PutHead_spec (major n : Int) (w : World) (hm0 : 0 ≤ major) (hm : major ≤ 7) (hn0 : 0 ≤ n) (hn : n < 18446744073709551616) :
    Calls Tryd.prog 80 #[.int .i64 major, .int .u64 n] w (TxtRet w (headL major.toNat n.toNat)) := by
  by_cases h1 : n < 24
  · have H := Lib.hid (show headL major.toNat n.toNat = big 1 (major * 32 + n).toNat by rw [headL, if_pos (by omega), big_one, show (major * 32 + n).toNat = 32 * major.toNat + n.toNat by omega])
    go_enter Tryd.func80, Tryd.ntmps80
    go_wp2_with (go_at_call 102; refine (l01In_yes _ _ _ _ (by omega) (by omega)).mono ?_; rintro e w' ⟨rfl, rfl⟩)
    refine (l05Big_int _ _ _ (by omega) (by omega) (by omega) (by omega)).mono ?_
    rintro e w1 ⟨rfl, hb⟩
    go_wp2_with fail
    go_ret
    exact ⟨by rw [H.out]; rfl, hb⟩
  · by_cases h2 : n < 256
    · have H := Lib.hid (show headL major.toNat n.toNat = big 1 (major * 32 + 24).toNat ++ big 1 n.toNat by rw [show (major * 32 + 24).toNat = 32 * major.toNat + 24 by omega, headL, if_neg (show ¬ n.toNat < 24 by omega), if_pos (show n.toNat < 256 by omega), big_one, big_one]; rfl)
      go_enter Tryd.func80, Tryd.ntmps80
      go_wp2_with (go_at_call 102; refine (l01In_yes _ _ _ _ (by omega) (by omega)).mono ?_; rintro e w' ⟨rfl, rfl⟩)
      refine (l05Big_int _ _ _ (by omega) (by omega) (by omega) (by omega)).mono ?_
      rintro e w1 ⟨rfl, hb⟩
      go_wp2_with fail
      refine (l05Big_int _ _ _ (by omega) (by omega) (by omega) (by omega)).mono ?_
      rintro e w2 ⟨rfl, hb2⟩
      go_wp2_with fail
      go_ret
      exact ⟨ret_str (by rw [H.out]; exact bstr_append _ _), hb.trans (hb2.mono hb.size)⟩
    · by_cases h3 : n < 65536
      · have H := Lib.hid (show headL major.toNat n.toNat = big 1 (major * 32 + 25).toNat ++ big 2 n.toNat by rw [show (major * 32 + 25).toNat = 32 * major.toNat + 25 by omega, headL, if_neg (show ¬ n.toNat < 24 by omega), if_neg (show ¬ n.toNat < 256 by omega), if_pos (show n.toNat < 65536 by omega), big_one]; rfl)
        go_enter Tryd.func80, Tryd.ntmps80
        go_wp2_with (go_at_call 102; refine (l01In_yes _ _ _ _ (by omega) (by omega)).mono ?_; rintro e w' ⟨rfl, rfl⟩)
        refine (l05Big_int _ _ _ (by omega) (by omega) (by omega) (by omega)).mono ?_
        rintro e w1 ⟨rfl, hb⟩
        go_wp2_with fail
        refine (l05Big_int _ _ _ (by omega) (by omega) (by omega) (by omega)).mono ?_
        rintro e w2 ⟨rfl, hb2⟩
        go_wp2_with fail
        go_ret
        exact ⟨ret_str (by rw [H.out]; exact bstr_append _ _), hb.trans (hb2.mono hb.size)⟩
      · by_cases h4 : n < 4294967296
        · have H := Lib.hid (show headL major.toNat n.toNat = big 1 (major * 32 + 26).toNat ++ big 4 n.toNat by rw [show (major * 32 + 26).toNat = 32 * major.toNat + 26 by omega, headL, if_neg (show ¬ n.toNat < 24 by omega), if_neg (show ¬ n.toNat < 256 by omega), if_neg (show ¬ n.toNat < 65536 by omega), if_pos (show n.toNat < 4294967296 by omega), big_one]; rfl)
          go_enter Tryd.func80, Tryd.ntmps80
          go_wp2_with (go_at_call 102; refine (l01In_yes _ _ _ _ (by omega) (by omega)).mono ?_; rintro e w' ⟨rfl, rfl⟩)
          refine (l05Big_int _ _ _ (by omega) (by omega) (by omega) (by omega)).mono ?_
          rintro e w1 ⟨rfl, hb⟩
          go_wp2_with fail
          refine (l05Big_int _ _ _ (by omega) (by omega) (by omega) (by omega)).mono ?_
          rintro e w2 ⟨rfl, hb2⟩
          go_wp2_with fail
          go_ret
          exact ⟨ret_str (by rw [H.out]; exact bstr_append _ _), hb.trans (hb2.mono hb.size)⟩
        · have H := Lib.hid (show headL major.toNat n.toNat = big 1 (major * 32 + 27).toNat ++ big 8 n.toNat by rw [show (major * 32 + 27).toNat = 32 * major.toNat + 27 by omega, headL, if_neg (show ¬ n.toNat < 24 by omega), if_neg (show ¬ n.toNat < 256 by omega), if_neg (show ¬ n.toNat < 65536 by omega), if_neg (show ¬ n.toNat < 4294967296 by omega), big_one]; rfl)
          go_enter Tryd.func80, Tryd.ntmps80
          go_wp2_with (go_at_call 102; refine (l01In_yes _ _ _ _ (by omega) (by omega)).mono ?_; rintro e w' ⟨rfl, rfl⟩)
          refine (l05Big_int _ _ _ (by omega) (by omega) (by omega) (by omega)).mono ?_
          rintro e w1 ⟨rfl, hb⟩
          go_wp2_with fail
          refine (l05Big_int _ _ _ (by omega) (by omega) (by omega) (by omega)).mono ?_
          rintro e w2 ⟨rfl, hb2⟩
          go_wp2_with fail
          go_ret
          exact ⟨ret_str (by rw [H.out]; exact bstr_append _ _), hb.trans (hb2.mono hb.size)⟩
end Go.Proofs.YtgbgeocmjdgmoaaDoor
namespace Go.Proofs.YtgbgeocmjdgmoaaDoor
set_option linter.unusedSimpArgs false
set_option linter.unusedVariables false
set_option maxRecDepth 100000
open Go.RowKit
def BRead (w : World) (v : Value) (L : List Int) : Prop := ∃ (a : Option Addr) (b off cap : Nat), v = .slice a L.length cap ∧ (L ≠ [] → a = some ⟨b, off, none⟩ ∧ b < w.heap.size) ∧ L.length ≤ cap ∧ cap ≤ 9223372036854775807 ∧
  (∀ i (h : i < L.length), w.cell? ⟨b, off + i, none⟩ = some (.int .u8 L[i])) ∧ ∀ n ∈ L, 0 ≤ n ∧ n ≤ 255
def CB (w : World) (c : Nat) (v : Value) (i : Nat) (h : Int) : Prop := w.heap[c]? = some (.cells #[v, .int .i64 (i : Int), .int .i64 h] 140 (0, 0))
theorem CB.stay {w w' : World} {c : Nat} {v : Value} {i : Nat} {h : Int} (hc : CB w c v i h) (hb : Below w.heap.size w w') : CB w' c v i h := (hb.block c (lt_of_heap hc)).trans hc
theorem CB.cells {w : World} {c : Nat} {v : Value} {i : Nat} {h : Int} (hc : CB w c v i h) : w.cell? ⟨c, 0, none⟩ = some v ∧ w.cell? ⟨c, 1, none⟩ = some (.int .i64 (i : Int)) ∧ w.cell? ⟨c, 2, none⟩ = some (.int .i64 h) ∧ w.frozen? ⟨c, 1, none⟩ = false ∧ w.frozen? ⟨c, 2, none⟩ = false :=
  ⟨by rw [cell_of_row _ _ _ _ _ (0, 0) hc]; rfl, by rw [cell_of_row _ _ _ _ _ (0, 0) hc]; rfl, by rw [cell_of_row _ _ _ _ _ (0, 0) hc]; rfl, frozen_of_row w c 1 _ _ hc, frozen_of_row w c 2 _ _ hc⟩
theorem CB.setI {w : World} {c : Nat} {v : Value} {i : Nat} {h : Int} (hc : CB w c v i h) (i' : Nat) (x : Int) (hx : x = (i' : Int)) : CB (w.setCell ⟨c, 1, none⟩ (.int .i64 x)) c v i' h := by
  subst hx; unfold CB at *; rw [heap_setCell_same w c 1 _ _ _ hc]; rfl
theorem CB.setH {w : World} {c : Nat} {v : Value} {i : Nat} {h : Int} (hc : CB w c v i h) (h' : Int) : CB (w.setCell ⟨c, 2, none⟩ (.int .i64 h')) c v i h' := by
  unfold CB at *; rw [heap_setCell_same w c 2 _ _ _ hc]; rfl
theorem Touch.cellC {c i : Nat} {w W : World} (h : Touch (fun x => x = c) (fun x => x = c) w W) (v : Value) : Touch (fun x => x = c) (fun x => x = c) w (W.setCell ⟨c, i, none⟩ v) :=
  ⟨h.os, h.tape, h.output, by simpa using h.size, fun x hx hn => (heap_setCell_other _ _ _ _ hn).trans (h.block x hx hn), h.new⟩
theorem touch_drewN2 {d : Nat} {w W : World} (n : Nat) (h : Touch (fun x => x = d) (fun x => x = d) w W) : Touch (fun x => x = d) (fun x => x = d) w (W.drewN n) := h.trans (Touch.of_below (below_drewN (Below.refl _ _) n))
def lcX (h : Int) : Int := bits BinOp.and IntKind.i64 (bits BinOp.xor IntKind.i64 (h / 8589934592) (h / 35184372088832)) 255
theorem bits255 (n : Int) : bits BinOp.and IntKind.i64 n 255 = n % 256 := by
  have key : (((BitVec.ofInt 64 n &&& BitVec.ofInt 64 ((255 : Nat) : Int)).toNat : Nat) : Int) = n % 256 := by
    rw [BitVec.toNat_and, BitVec.ofInt_natCast, BitVec.toNat_ofNat, BitVec.toNat_ofInt, show (255 : Nat) % 2 ^ 64 = 2 ^ 8 - 1 by decide, Nat.and_two_pow_sub_one_eq_mod]
    omega
  show IntKind.i64.wrap (((BitVec.ofInt 64 n &&& BitVec.ofInt 64 ((255 : Nat) : Int)).toNat : Nat) : Int) = _
  rw [key]
  simp only [IntKind.wrap, IntKind.signed, IntKind.bits]
  simp
  omega
theorem bits255_le (n : Int) : 0 ≤ bits BinOp.and IntKind.i64 n 255 ∧ bits BinOp.and IntKind.i64 n 255 ≤ 255 := by rw [bits255]; omega
def adv (n m : Nat) (st : Nat × Int) : Nat × Int := (min n (st.1 + m), lcN m st.2)
theorem adv_adv (n m k : Nat) (st : Nat × Int) : adv n k (adv n m st) = adv n (m + k) st := by
  unfold adv
  rw [lcN_add]
  simp only [Prod.mk.injEq, and_true]
  omega
structure Cu (w0 : World) (c : Nat) (v : Value) (n : Nat) (st : Nat × Int) (w : World) : Prop where
  cb : CB w c v st.1 st.2
  le : st.1 ≤ n
  h64 : In64 st.2
  below : Below w0.heap.size w0 w
  hc : w0.heap.size ≤ c
theorem Cu.stay {w0 w w' : World} {c n : Nat} {v : Value} {st : Nat × Int} (h : Cu w0 c v n st w) (hb : Below w.heap.size w w') : Cu w0 c v n st w' := ⟨h.cb.stay hb, h.le, h.h64, h.below.trans (hb.mono h.below.size), h.hc⟩
set_option maxHeartbeats 2000000 in
theorem l01Byte_any (w0 : World) (c : Nat) (v : Value) (L : List Int) (hL : BRead w0 v L) (hn : L.length ≤ 1048576) (st : Nat × Int) (w : World) (h : Cu w0 c v L.length st w) :
    Calls Tryd.prog 185 #[.pointer (some ⟨c, 0, none⟩)] w fun e w' => ∃ x : Int, e = .returned (.int .i64 x) ∧ 0 ≤ x ∧ x ≤ 255 ∧ (L.length ≤ st.1 → x = lcX (lcT st.2)) ∧ Cu w0 c v L.length (adv L.length 1 st) w' ∧ Touch (fun x => x = c) (fun x => x = c) w w' := by
  obtain ⟨i, hh⟩ := st
  obtain ⟨a, b, off, cap, rfl, h1, h2, h3, h4, h5⟩ := hL
  have HU := Lib.hid h
  have hcw := lt_of_heap h.cb
  have hc0 := h.hc
  have hle : i ≤ L.length := h.le
  obtain ⟨u0, u1, u2, f1, f2⟩ := h.cb.cells
  simp only at u1 u2
  have HT := Lib.hid (Touch.refl (fun x => x = c) w)
  have HX := Lib.hid (bits255_le)
  clear h
  by_cases hi : i < L.length
  · obtain ⟨rfl, hb⟩ := h1 (by intro e; rw [e] at hi; simp at hi)
    have hci : w0.cell? ⟨b, off + i, none⟩ = some (.int .u8 L[i]) := h4 i hi
    have hcell : w.cell? ⟨b, off + i, none⟩ = some (.int .u8 L[i]) := by rw [HU.out.below.cell hb]; exact hci
    have hrng := h5 L[i] (List.getElem_mem hi)
    have hb1 : b ≠ c := by omega
    have hb2 : c ≠ b := by omega
    clear h4 h5 hci
    generalize L[i] = y at *
    have HC := Lib.hid (show ∀ W, CB W c (.slice (some ⟨b, off, none⟩) L.length cap) (i + 1) (lcT hh) → Below w0.heap.size w0 W → Cu w0 c (.slice (some ⟨b, off, none⟩) L.length cap) L.length (adv L.length 1 (i, hh)) W from fun W h1 h2 => by
      have e : adv L.length 1 (i, hh) = (i + 1, lcT hh) := by unfold adv lcN lcN; simp only [Prod.mk.injEq, and_true]; omega
      rw [e]; exact ⟨h1, by simp only; omega, lcT_in _, h2, hc0⟩)
    have HB := Lib.hid (fun (W : World) (hT : Touch (fun x => x = c) (fun x => x = c) w W) => HU.out.below.trans (hT.below (fun x hx => by omega) HU.out.below.size))
    have HCB := Lib.hid (show CB w c (.slice (some ⟨b, off, none⟩) L.length cap) i hh from HU.out.cb)
    have hcap : 0 ≤ L.length := by omega
    generalize hn2 : L.length = n at *
    go_enter Tryd.func185, Tryd.ntmps185
    go_wp2_with fail
    go_quiet (fail)
    go_wp2_with fail
    go_quiet (fail)
    go_wp2_with fail
    go_quiet (fail)
    go_wp2_with fail
    go_ret
    refine ⟨_, rfl, (HX.out _).1, (HX.out _).2, fun hc => by omega, ?_, ?_⟩
    · exact HC.out _ ((CB.stay (CB.setH HCB.out _) (by repeat' (first | exact Below.refl _ _ | refine below_drewN ?_ _))).setI (i + 1) _ (by omega)) (HB.out _ ((touch_drewN2 _ (HT.out.cellC _)).cellC _))
    · exact ((touch_drewN2 _ (HT.out.cellC _)).cellC _)
  · obtain rfl : i = L.length := by omega
    have HC := Lib.hid (show ∀ W, CB W c (.slice a L.length cap) L.length (lcT hh) → Below w0.heap.size w0 W → Cu w0 c (.slice a L.length cap) L.length (adv L.length 1 (L.length, hh)) W from fun W h1 h2 => by
      have e : adv L.length 1 (L.length, hh) = (L.length, lcT hh) := by unfold adv lcN lcN; simp only [Prod.mk.injEq, and_true]; omega
      rw [e]; exact ⟨h1, by simp only; omega, lcT_in _, h2, hc0⟩)
    have HB := Lib.hid (fun (W : World) (hT : Touch (fun x => x = c) (fun x => x = c) w W) => HU.out.below.trans (hT.below (fun x hx => by omega) HU.out.below.size))
    have HCB := Lib.hid (show CB w c (.slice a L.length cap) L.length hh from HU.out.cb)
    clear h1 h4 h5
    generalize L.length = n at *
    go_enter Tryd.func185, Tryd.ntmps185
    go_wp2_with fail
    go_quiet (fail)
    go_wp2_with fail
    go_quiet (fail)
    go_wp2_with fail
    go_ret
    refine ⟨_, rfl, (HX.out _).1, (HX.out _).2, fun _ => rfl, ?_, ?_⟩
    · exact HC.out _ (CB.stay (CB.setH HCB.out _) (by repeat' (first | exact Below.refl _ _ | refine below_drewN ?_ _))) (HB.out _ (touch_drewN2 _ (touch_drewN2 _ (HT.out.cellC _))))
    · exact (touch_drewN2 _ (touch_drewN2 _ (HT.out.cellC _)))
set_option maxHeartbeats 2000000 in
theorem l01Below_any (w0 : World) (c : Nat) (v : Value) (L : List Int) (hL : BRead w0 v L) (hn : L.length ≤ 1048576) (n : Int) (hn64 : In64 n) (st : Nat × Int) (w : World) (h : Cu w0 c v L.length st w) :
    Calls Tryd.prog 123 #[.pointer (some ⟨c, 0, none⟩), .int .i64 n] w fun e w' => ∃ (x : Int) (m : Nat), e = .returned (.int .i64 x) ∧ 0 ≤ x ∧ (x < n ∨ x = 0) ∧ m ≤ 4 ∧ (1 ≤ n → 1 ≤ m) ∧ (1 ≤ n → n ≤ 256 → m = 1 ∧ (L.length ≤ st.1 → x = lcX (lcT st.2) % n)) ∧ Cu w0 c v L.length (adv L.length m st) w' ∧ Touch (fun x => x = c) (fun x => x = c) w w' := by
  have BY := Lib.hid (fun st W h => l01Byte_any w0 c v L hL hn st W h)
  have HU := Lib.hid h
  obtain ⟨n0, n1⟩ := hn64
  clear h hL
  by_cases h0 : n ≤ 0
  · have t0 : decide (n ≤ 0) = true := decide_eq_true h0
    go_enter Tryd.func123, Tryd.ntmps123
    go_wp2_with fail
    go_ret
    exact ⟨0, 0, rfl, by omega, .inr rfl, by omega, fun _ => by omega, fun _ => by omega, by
      have e : adv L.length 0 st = st := by unfold adv lcN; have := HU.out.le; rw [Nat.add_zero, Nat.min_eq_right this]
      rw [e]; exact HU.out, Touch.refl _ _⟩
  have t0 : decide (n ≤ 0) = false := decide_eq_false h0
  by_cases h1 : n ≤ 256
  · have t1 : decide (n ≤ 256) = true := decide_eq_true h1
    go_enter Tryd.func123, Tryd.ntmps123
    go_wp2_with fail
    refine (BY.out st w HU.out).mono ?_
    rintro e1 w1 ⟨x, rfl, hx0, hx1, hx2, hcu, ht⟩
    have HX2 := Lib.hid hx2; have HCU := Lib.hid hcu; have HT := Lib.hid ht
    have hm0 : 0 ≤ x % n := Int.emod_nonneg _ (by omega)
    have hm1 : x % n < n := Int.emod_lt_of_pos _ (by omega)
    have hne : n ≠ 0 := by omega
    clear hx2 hcu ht
    go_wp2_with fail
    go_ret
    exact ⟨_, 1, rfl, hm0, .inl hm1, by omega, fun _ => by omega, fun _ _ => ⟨rfl, fun hc => by rw [HX2.out hc]⟩, HCU.out, HT.out⟩
  · have t1 : decide (n ≤ 256) = false := decide_eq_false h1
    go_enter Tryd.func123, Tryd.ntmps123
    go_wp2_with fail
    refine (BY.out st w HU.out).mono ?_
    rintro e1 w1 ⟨x, rfl, hx0, hx1, hx2, hcu1, ht1⟩
    clear hx2
    have HCU1 := Lib.hid hcu1; have HT1 := Lib.hid ht1
    clear hcu1 ht1
    go_wp2_with fail
    refine (BY.out _ w1 HCU1.out).mono ?_
    rintro e2 w2 ⟨y, rfl, hy0, hy1, hx2, hcu1, ht1⟩
    clear hx2
    have HCU2 := Lib.hid hcu1; have HT2 := Lib.hid (HT1.out.trans ht1)
    clear hcu1 ht1
    go_wp2_with fail
    refine (BY.out _ w2 HCU2.out).mono ?_
    rintro e3 w3 ⟨z, rfl, hz0, hz1, hx2, hcu1, ht1⟩
    clear hx2
    have HCU3 := Lib.hid hcu1; have HT3 := Lib.hid (HT2.out.trans ht1)
    clear hcu1 ht1
    go_wp2_with fail
    refine (BY.out _ w3 HCU3.out).mono ?_
    rintro e4 w4 ⟨q, rfl, hq0, hq1, hx2, hcu1, ht1⟩
    clear hx2
    have HCU4 := Lib.hid hcu1; have HT4 := Lib.hid (HT3.out.trans ht1)
    clear hcu1 ht1
    have hm0 : 0 ≤ (x * 16777216 + y * 65536 + z * 256 + q) % n := Int.emod_nonneg _ (by omega)
    have hm1 : (x * 16777216 + y * 65536 + z * 256 + q) % n < n := Int.emod_lt_of_pos _ (by omega)
    have hne : n ≠ 0 := by omega
    go_wp2_with fail
    go_ret
    exact ⟨_, 4, rfl, hm0, .inl hm1, by omega, fun _ => by omega, fun _ _ => by omega, by
      have e := HCU4.out
      rw [adv_adv, adv_adv, adv_adv] at e
      exact e, HT4.out⟩
set_option maxHeartbeats 2000000 in
theorem l01Once_any (w0 : World) (c : Nat) (v : Value) (L : List Int) (hL : BRead w0 v L) (hn : L.length ≤ 1048576) (n : Int) (hn64 : In64 n) (st : Nat × Int) (w : World) (h : Cu w0 c v L.length st w) :
    Calls Tryd.prog 139 #[.pointer (some ⟨c, 0, none⟩), .int .i64 n] w fun e w' => ∃ (b : Bool) (m : Nat), e = .returned (.bool b) ∧ m ≤ 4 ∧ Cu w0 c v L.length (adv L.length m st) w' ∧ Touch (fun x => x = c) (fun x => x = c) w w' := by
  have BL := Lib.hid (l01Below_any w0 c v L hL hn n hn64 st w h)
  clear h hL
  go_enter Tryd.func139, Tryd.ntmps139
  go_wp2_with fail
  refine BL.out.mono ?_
  rintro e1 w1 ⟨x, m, rfl, hx0, hx1, hm, -, -, hcu, ht⟩
  have HCU := Lib.hid hcu; have HT := Lib.hid ht
  clear hcu ht
  go_wp2_with fail
  go_ret
  exact ⟨_, m, rfl, hm, HCU.out, HT.out⟩
set_option maxHeartbeats 2000000 in
theorem l01PickInt_any (w0 : World) (c : Nat) (v : Value) (L : List Int) (hL : BRead w0 v L) (hn : L.length ≤ 1048576) (b off k cap : Nat) (hk : 1 ≤ k ∧ k ≤ 1000) (st : Nat × Int) (w : World) (h : Cu w0 c v L.length st w) (hb : b < w.heap.size) (hbc : b ≠ c)
    (hz : ∀ j, j < k → ∃ z, w.cell? ⟨b, off + j, none⟩ = some (.int .i64 z) ∧ In64 z) :
    Calls Tryd.prog 119 #[.pointer (some ⟨c, 0, none⟩), .slice (some ⟨b, off, none⟩) k cap] w fun e w' => ∃ (z : Int) (m : Nat), e = .returned (.int .i64 z) ∧ In64 z ∧ m ≤ 4 ∧ Cu w0 c v L.length (adv L.length m st) w' ∧ Touch (fun x => x = c) (fun x => x = c) w w' := by
  have BL := Lib.hid (l01Below_any w0 c v L hL hn k (by unfold In64; omega) st w h)
  have HZ := Lib.hid hz
  clear h hL hz
  go_enter Tryd.func119, Tryd.ntmps119
  go_wp2_with fail
  refine BL.out.mono ?_
  rintro e1 w1 ⟨x, m, rfl, hx0, hx1, hm, -, -, hcu, ht⟩
  obtain ⟨xn, rfl⟩ : ∃ xn : Nat, x = (xn : Int) := ⟨x.toNat, by omega⟩
  have hxk : xn < k := by omega
  obtain ⟨z, hc, hz64⟩ := HZ.out xn hxk
  have hc1 : w1.cell? ⟨b, off + xn, none⟩ = some (.int .i64 z) := by
    rw [World.cell?_of_block (w := w) (w' := w1) (ht.block b hb hbc)]; exact hc
  have HCU := Lib.hid hcu; have HT := Lib.hid ht; have HZ64 := Lib.hid hz64
  clear hcu ht hz64 hc
  go_wp2_with fail
  go_ret
  exact ⟨_, m, rfl, HZ64.out, hm, HCU.out, HT.out⟩
set_option maxHeartbeats 2000000 in
theorem l01Pick_any (w0 : World) (c : Nat) (v : Value) (L : List Int) (hL : BRead w0 v L) (hn : L.length ≤ 1048576) (b off k cap B : Nat) (hk : 1 ≤ k ∧ k ≤ 1000) (st : Nat × Int) (w : World) (h : Cu w0 c v L.length st w) (hb : b < w.heap.size) (hbc : b ≠ c)
    (hz : ∀ j, j < k → ∃ z : ByteArray, w.cell? ⟨b, off + j, none⟩ = some (.string z) ∧ z.size ≤ B) :
    Calls Tryd.prog 175 #[.pointer (some ⟨c, 0, none⟩), .slice (some ⟨b, off, none⟩) k cap] w fun e w' => ∃ (z : ByteArray) (m : Nat), e = .returned (.string z) ∧ z.size ≤ B ∧ m ≤ 4 ∧ Cu w0 c v L.length (adv L.length m st) w' ∧ Touch (fun x => x = c) (fun x => x = c) w w' := by
  have BL := Lib.hid (l01Below_any w0 c v L hL hn k (by unfold In64; omega) st w h)
  have HZ := Lib.hid hz
  clear h hL hz
  go_enter Tryd.func175, Tryd.ntmps175
  go_wp2_with fail
  refine BL.out.mono ?_
  rintro e1 w1 ⟨x, m, rfl, hx0, hx1, hm, -, -, hcu, ht⟩
  obtain ⟨xn, rfl⟩ : ∃ xn : Nat, x = (xn : Int) := ⟨x.toNat, by omega⟩
  have hxk : xn < k := by omega
  obtain ⟨z, hc, hz64⟩ := HZ.out xn hxk
  have hc1 : w1.cell? ⟨b, off + xn, none⟩ = some (.string z) := by
    rw [World.cell?_of_block (w := w) (w' := w1) (ht.block b hb hbc)]; exact hc
  have HCU := Lib.hid hcu; have HT := Lib.hid ht; have HZ64 := Lib.hid hz64
  clear hcu ht hz64 hc
  go_wp2_with fail
  go_ret
  exact ⟨_, m, rfl, HZ64.out, hm, HCU.out, HT.out⟩
theorem bits30 (n : Int) : bits BinOp.and IntKind.i64 n 1073741823 = n % 1073741824 := by
  have key : (((BitVec.ofInt 64 n &&& BitVec.ofInt 64 ((1073741823 : Nat) : Int)).toNat : Nat) : Int) = n % 1073741824 := by
    rw [BitVec.toNat_and, BitVec.ofInt_natCast, BitVec.toNat_ofNat, BitVec.toNat_ofInt, show (1073741823 : Nat) % 2 ^ 64 = 2 ^ 30 - 1 by decide, Nat.and_two_pow_sub_one_eq_mod]
    omega
  show IntKind.i64.wrap (((BitVec.ofInt 64 n &&& BitVec.ofInt 64 ((1073741823 : Nat) : Int)).toNat : Nat) : Int) = _
  rw [key]
  simp only [IntKind.wrap, IntKind.signed, IntKind.bits]
  simp
  omega
theorem bits30_in (n : Int) : 0 ≤ bits BinOp.and IntKind.i64 n 1073741823 ∧ bits BinOp.and IntKind.i64 n 1073741823 ≤ 1073741823 := by rw [bits30]; omega
set_option maxHeartbeats 2000000 in
theorem l01New_any (w0 : World) (v : Value) (L : List Int) (hL : BRead w0 v L) (hn : L.length ≤ 1048576) (w : World) (hw : Below w0.heap.size w0 w) :
    Calls Tryd.prog 88 #[v] w fun e w' => ∃ h : Int, e = .returned (.pointer (some ⟨w.heap.size, 0, none⟩)) ∧ Cu w0 w.heap.size v L.length (0, h) w' ∧ Below w.heap.size w w' := by
  obtain ⟨a, b, off, cap, rfl, h1, h2, h3, h4, h5⟩ := hL
  have HW := Lib.hid hw
  have H1 := Lib.hid h1
  have H4 := Lib.hid (show ∀ i (h : i < L.length), w.cell? ⟨b, off + i, none⟩ = some (.int .u8 L[i]) from fun i h => by
    have hb := (h1 (by intro e; rw [e] at h; simp at h)).2
    rw [hw.cell hb]; exact h4 i h)
  have H5 := Lib.hid h5
  have HX := Lib.hid bits30_in
  have HFIN := Lib.hid (fun (h : Int) (hh : In64 h) => show Cu w0 w.heap.size (.slice a L.length cap) L.length (0, h) (w.alloc (.cells #[.slice a L.length cap, .int .i64 0, .int .i64 h] 140)) ∧ Below w.heap.size w (w.alloc (.cells #[.slice a L.length cap, .int .i64 0, .int .i64 h] 140)) from
    ⟨⟨heap_alloc_new w _, by simp, hh, hw.trans (((Below.refl _ _).alloc (Nat.le_refl _) _).mono hw.size), hw.size⟩, (Below.refl _ _).alloc (Nat.le_refl _) _⟩)
  clear hw h1 h4 h5
  go_enter Tryd.func88, Tryd.ntmps88
  go_wp2_with fail
  go_loopw [3, 4] (fun hv iv wr => ∃ (k : Nat) (h : Int), hv = .int .i64 h ∧ iv = .int .i64 k ∧ k ≤ L.length ∧ In64 h ∧ wr = w) (fun _ iv _ => L.length + 1 - (intOf iv).toNat)
  case atStart => exact ⟨0, _, rfl, rfl, by omega, by unfold In64; omega, rfl⟩
  case round =>
    obtain ⟨k, h, rfl, rfl, hk, hh, rfl⟩ := hrel
    by_cases hlt : k < L.length
    · by_cases h40 : k < 4000
      · have t40 : decide ((k : Int) < 4000) = true := decide_eq_true (by omega)
        obtain ⟨rfl, hb⟩ := H1.out (by intro e; rw [e] at hlt; simp at hlt)
        have hcell := H4.out k hlt
        have hrng := H5.out L[k] (List.getElem_mem hlt)
        generalize L[k] = y at *
        have HH := Lib.hid hh
        clear hh
        go_wp2_with fail
        go_roundw
        case rel => exact ⟨k + 1, _, rfl, by go_num, by omega, by have := HX.out (wrap64 (wrap64 (wrap64 (h * 131) + y) + 7)); unfold In64; omega, trivial⟩
        case measure => simp [intOf]; omega
      · have t40 : decide ((k : Int) < 4000) = false := decide_eq_false (by omega)
        have HF := Lib.hid (HFIN.out h hh)
        go_wp2_with fail
        go_ret
        exact ⟨h, rfl, HF.out⟩
    · obtain rfl : k = L.length := by omega
      have HF := Lib.hid (HFIN.out h hh)
      go_wp2_with fail
      go_ret
      exact ⟨h, rfl, HF.out⟩
end Go.Proofs.YtgbgeocmjdgmoaaDoor
namespace Go.Proofs.YtgbgeocmjdgmoaaDoor
set_option linter.unusedSimpArgs false
set_option linter.unusedVariables false
set_option maxRecDepth 100000
open Go.RowKit
def lcU (x : Int) : Int := wrap64 ((x - 1442695040888963407) * 13877824140714322085)
theorem lcU_T {h : Int} (hh : In64 h) : lcU (lcT h) = h := by
  unfold lcU lcT wrap64 In64 at *
  omega
theorem lcT_inj {a b : Int} (ha : In64 a) (hb : In64 b) (h : lcT a = lcT b) : a = b := by rw [← lcU_T ha, h, lcU_T hb]
theorem lcN_inj : ∀ (n : Nat) {a b : Int}, In64 a → In64 b → lcN n a = lcN n b → a = b
  | 0, a, b, _, _, h => h
  | n + 1, a, b, ha, hb, h => lcT_inj ha hb (lcN_inj n (lcT_in _) (lcT_in _) h)
def lcH0 : Int := -1228251632728596194
def lcStar : Int := lcN 13 lcH0
theorem lcH0_in : In64 lcH0 := by unfold In64 lcH0; omega
theorem lcStar_in : In64 lcStar := lcN_in lcH0_in
def grows (x : Int) : Bool := x == 0 || x == 3 || x == 4
theorem run_good : ∀ j, 8 ≤ j → j ≤ 14 → grows (lcX (lcN j lcH0) % 5) = true := by
  intro j h1 h2
  have hc : j = 8 ∨ j = 9 ∨ j = 10 ∨ j = 11 ∨ j = 12 ∨ j = 13 ∨ j = 14 := by omega
  rcases hc with rfl | rfl | rfl | rfl | rfl | rfl | rfl <;> decide +kernel
theorem least {p : Nat → Prop} (h : ∃ n, p n) : ∃ n, p n ∧ ∀ m, m < n → ¬ p m := by
  obtain ⟨n, hn⟩ := h
  induction n using Nat.strongRecOn with
  | _ n ih =>
    by_cases h2 : ∃ m, m < n ∧ p m
    · obtain ⟨m, hm, hp⟩ := h2
      exact ih m hm hp
    · exact ⟨n, hn, fun m hm hp => h2 ⟨m, hm, hp⟩⟩
open Classical in
noncomputable def lcDist (h : Int) : Nat := if hh : ∃ n, lcN n h = lcStar then Classical.choose (least hh) else 0
theorem lcDist_spec {h : Int} (hh : In64 h) : lcN (lcDist h) h = lcStar ∧ ∀ m, m < lcDist h → lcN m h ≠ lcStar := by
  have hr : ∃ n, lcN n h = lcStar := by
    obtain ⟨n, -, e⟩ := lc_reach lcStar_in hh
    exact ⟨n, e⟩
  unfold lcDist
  rw [dif_pos hr]
  exact Classical.choose_spec (least hr)
theorem lcDist_lt {h : Int} (hh : In64 h) : lcDist h < 18446744073709551616 := by
  obtain ⟨n, hn, e⟩ := lc_reach lcStar_in hh
  have h2 := (lcDist_spec hh).2
  by_cases hc : n < lcDist h
  · exact absurd e (h2 n hc)
  · omega
theorem lcDist_step {h : Int} (hh : In64 h) {m : Nat} (hm : m ≤ lcDist h) : lcDist (lcN m h) + m = lcDist h := by
  obtain ⟨h1, h2⟩ := lcDist_spec hh
  obtain ⟨h3, h4⟩ := lcDist_spec (lcN_in (n := m) hh)
  have e1 : lcN (lcDist h - m) (lcN m h) = lcStar := by rw [← lcN_add, show m + (lcDist h - m) = lcDist h by omega]; exact h1
  have e2 : lcN (m + lcDist (lcN m h)) h = lcStar := by rw [lcN_add]; exact h3
  have c1 : ¬ (lcDist h - m < lcDist (lcN m h)) := fun hc => h4 _ hc e1
  have c2 : ¬ (m + lcDist (lcN m h) < lcDist h) := fun hc => h2 _ hc e2
  omega
theorem lc_near {h : Int} (hh : In64 h) (hd : lcDist h ≤ 5) : grows (lcX (lcT h) % 5) = true := by
  obtain ⟨h1, -⟩ := lcDist_spec hh
  have e : h = lcN (13 - lcDist h) lcH0 := by
    refine lcN_inj (lcDist h) hh (lcN_in lcH0_in) ?_
    rw [h1, ← lcN_add, show 13 - lcDist h + lcDist h = 13 by omega]
    rfl
  rw [e, ← lcN_succ]
  exact run_good _ (by omega) (by omega)
noncomputable def txtM (n N len i : Nat) (h : Int) : Nat := (n - len) * 1267650600228229401496703205376 + (N - i) * 1180591620717411303424 + lcDist h
theorem txtM_len {n N len len' i i' : Nat} {h h' : Int} (hN : N ≤ 1048576) (hh : In64 h') (h1 : len < len') (h2 : len < n) : txtM n N len' i' h' < txtM n N len i h := by
  have := lcDist_lt hh
  unfold txtM
  omega
theorem txtM_i {n N len i i' : Nat} {h h' : Int} (hh : In64 h') (h1 : i < i') (h2 : i < N) : txtM n N len i' h' < txtM n N len i h := by
  have := lcDist_lt hh
  unfold txtM
  omega
theorem txtM_h {n N len i m : Nat} {h : Int} (hh : In64 h) (hm : 1 ≤ m) (hm6 : m ≤ 6) (hg : grows (lcX (lcT h) % 5) = false) : txtM n N len i (lcN m h) < txtM n N len i h := by
  by_cases hd : m ≤ lcDist h
  · have := lcDist_step hh hd
    unfold txtM
    omega
  · have := lc_near hh (by omega)
    rw [hg] at this; cases this
theorem txtM_stay {n N len m : Nat} {st : Nat × Int} (hi : st.1 ≤ N) (hh : In64 st.2) (hm : 1 ≤ m) (hm6 : m ≤ 6) (hg : N ≤ st.1 → grows (lcX (lcT st.2) % 5) = false) : txtM n N len (adv N m st).1 (adv N m st).2 < txtM n N len st.1 st.2 := by
  unfold adv
  simp only
  by_cases hc : N ≤ st.1
  · rw [show min N (st.1 + m) = st.1 by omega]
    exact txtM_h hh hm hm6 (hg hc)
  · exact txtM_i (lcN_in hh) (by omega) (by omega)
end Go.Proofs.YtgbgeocmjdgmoaaDoor
namespace Go.Proofs.YtgbgeocmjdgmoaaDoor
set_option linter.unusedSimpArgs false
set_option linter.unusedVariables false
set_option maxRecDepth 100000
open Go.RowKit
theorem BRow.over {c base : Nat} {w w' : World} {v : Value} {l : List UInt8} (h : BRow w base v l) (ht : Touch (fun x => x = c) (fun x => x = c) w w') (hc : c < base) : BRow w' base v l := by
  refine ⟨h.1, ?_⟩
  rcases h.2 with h2 | ⟨g, cap, cur, hv, hb, hg, rest⟩
  · exact .inl h2
  · exact .inr ⟨g, cap, cur, hv, hb, (ht.block g (lt_of_heap hg) (by omega)).trans hg, rest⟩
theorem BRow.keep {base : Nat} {w w' : World} {v : Value} {l : List UInt8} (h : BRow w base v l) (hb : Below w.heap.size w w') : BRow w' base v l := by
  refine ⟨h.1, ?_⟩
  rcases h.2 with h2 | ⟨g, cap, cur, hv, hbg, hg, rest⟩
  · exact .inl h2
  · exact .inr ⟨g, cap, cur, hv, hbg, (hb.block g (lt_of_heap hg)).trans hg, rest⟩
theorem BRow.slice {base : Nat} {w : World} {v : Value} {l : List UInt8} (h : BRow w base v l) : ∃ a cap, v = .slice a l.length cap := by
  rcases h.2 with ⟨rfl, h2⟩ | ⟨g, cap, cur, rfl, -⟩
  · exact ⟨none, 0, by rw [h2]⟩
  · exact ⟨_, _, rfl⟩
theorem BRow.at {base j : Nat} {w : World} {v : Value} {l : List UInt8} (h : BRow w base v l) (hj : j < l.length) : ∃ g cap, v = .slice (some ⟨g, 0, none⟩) l.length cap ∧ base ≤ g ∧ g < w.heap.size ∧ l.length ≤ cap ∧ w.cell? ⟨g, j, none⟩ = some (.int .u8 (l[j].toNat : Nat)) := by
  rcases h.2 with ⟨rfl, h2⟩ | ⟨g, cap, cur, rfl, hb, hg, hn, hm, hs, ht⟩
  · omega
  · refine ⟨g, cap, rfl, hb, lt_of_heap hg, hn, ?_⟩
    rw [cell_of_row _ _ _ _ _ (0, 0) hg]
    have e : cur[j]? = cur.toList[j]? := by simp
    rw [e]
    have e2 : cur.toList[j]? = (bys l)[j]? := by rw [← ht, List.getElem?_take_of_lt (by omega)]
    rw [e2]
    simp [bys, hj]
theorem BRow.cut {base n : Nat} {w : World} {a : Option Addr} {k cap : Nat} {l : List UInt8} (h : BRow w base (.slice a k cap) l) (hn : n ≤ l.length) : BRow w base (.slice a n cap) (l.take n) := by
  refine ⟨by simp [bys_length], ?_⟩
  rcases h.2 with ⟨hv, h2⟩ | ⟨g, cap', cur, hv, hb, hg, hn2, hm, hs, ht⟩
  · left
    simp only [Value.slice.injEq] at hv
    obtain ⟨rfl, rfl, rfl⟩ := hv
    have : n = 0 := by omega
    subst this
    exact ⟨rfl, by simp⟩
  · right
    simp only [Value.slice.injEq] at hv
    obtain ⟨rfl, rfl, rfl⟩ := hv
    refine ⟨g, cap, cur, by rw [List.length_take, Nat.min_eq_left hn], hb, hg, by rw [List.length_take]; omega, hm, hs, ?_⟩
    have e : bys (l.take n) = (bys l).take n := by simp [bys, List.map_take]
    rw [e, ← ht, List.length_take, Nat.min_eq_left hn, List.take_take]
    congr 1; omega
theorem touch_grownC {d B : Nat} {w W w2 : World} {o : Value} (h : Touch (fun x => x = d) (fun x => x = d) w W) (hg : W.grownBy w2 o.ownBlock) (hB : w.heap.size ≤ B) (ho : ∀ k, o.ownBlock = some k → B ≤ k) : Touch (fun x => x = d) (fun x => x = d) w w2 :=
  ⟨hg.os.trans h.os, hg.tape.trans h.tape, hg.output.trans h.output, Nat.le_trans h.size hg.size,
    fun x hx hn => (hg.block x (Nat.lt_of_lt_of_le hx h.size) (fun e => by have := ho x e.symm; omega)).trans (h.block x hx hn), fun x hx => .inl hx⟩
theorem Cu.over {w0 w w' : World} {c n : Nat} {v : Value} {st : Nat × Int} (h : Cu w0 c v n st w) (hb : w'.heap[c]? = w.heap[c]?) (hw : Below w0.heap.size w0 w') : Cu w0 c v n st w' := ⟨hb.trans h.cb, h.le, h.h64, hw, h.hc⟩
structure TR (w0 w : World) (c : Nat) (v : Value) (N : Nat) (st : Nat × Int) (o : Value) (l : List UInt8) (m : Nat) (W : World) : Prop where
  row : BRow W w.heap.size o l
  cu : Cu w0 c v N (adv N m st) W
  t : Touch (fun x => x = c) (fun x => x = c) w W
  cw : c < w.heap.size
theorem TR.call {w0 w W W' : World} {c N m k : Nat} {v o : Value} {st : Nat × Int} {l : List UInt8} (h : TR w0 w c v N st o l m W) (hcu : Cu w0 c v N (adv N k (adv N m st)) W') (ht : Touch (fun x => x = c) (fun x => x = c) W W') : TR w0 w c v N st o l (m + k) W' := by
  have hz := h.t.size
  exact ⟨h.row.over ht h.cw, by rw [← adv_adv]; exact hcu, h.t.trans ht, h.cw⟩
theorem TR.app {w0 w W W1 W2 : World} {c N m : Nat} {v o o2 : Value} {st : Nat × Int} {l l2 : List UInt8} (h : TR w0 w c v N st o l m W) (hb : Below W.heap.size W W1) (hg : W1.grownBy W2 o.ownBlock) (hr : BRow W2 w.heap.size o2 l2) : TR w0 w c v N st o2 l2 m W2 := by
  have hz := h.t.size
  have hz1 := hb.size
  have hcw := h.cw
  have hT : Touch (fun x => x = c) (fun x => x = c) w W2 := touch_grownC (h.t.trans (Touch.of_below hb)) hg (Nat.le_refl _) (fun k hk => (h.row.lt k hk).1)
  refine ⟨hr, h.cu.over ?_ ?_, hT, h.cw⟩
  · rw [hg.block c (by omega) (fun e => by have := (h.row.lt c e.symm).1; omega)]
    exact hb.block c (by omega)
  · have hc := h.cu.hc
    have hw0 := h.cu.below.size
    refine h.cu.below.trans ⟨hg.os.trans hb.os, hg.tape.trans hb.tape, hg.output.trans hb.output, by have := hg.size; omega, fun k hk => ?_⟩
    rw [hg.block k (by omega) (fun e => by have := (h.row.lt k e.symm).1; omega)]
    exact hb.block k (by omega)
noncomputable def txtMW (c n N : Nat) (o : Value) (W : World) : Nat := match o, W.cell? ⟨c, 1, none⟩, W.cell? ⟨c, 2, none⟩ with
  | .slice _ len _, some (.int _ i), some (.int _ h) => txtM n N len i.toNat h
  | _, _, _ => 0
theorem TR.meas {w0 w W : World} {c N m : Nat} {v o : Value} {st : Nat × Int} {l : List UInt8} (h : TR w0 w c v N st o l m W) (n : Nat) : txtMW c n N o W = txtM n N l.length (adv N m st).1 (adv N m st).2 := by
  obtain ⟨a, cap, rfl⟩ := h.row.slice
  obtain ⟨u0, u1, u2, -⟩ := h.cu.cb.cells
  unfold txtMW
  rw [u1, u2]
  simp
theorem TR.less {w0 w W W' : World} {c n N m m' : Nat} {v o o' : Value} {st : Nat × Int} {l l' : List UInt8} (h : TR w0 w c v N st o l m W) (h' : TR w0 w c v N st o' l' m' W') (hN : N ≤ 1048576) (hl : l.length < l'.length) (hn : l.length < n) : txtMW c n N o' W' < txtMW c n N o W := by
  rw [h.meas, h'.meas]
  exact txtM_len hN h'.cu.h64 hl hn
theorem TR.same {w0 w W W' : World} {c n N m k : Nat} {v o o' : Value} {st : Nat × Int} {l l' : List UInt8} (h : TR w0 w c v N st o l m W) (h' : TR w0 w c v N st o' l' (m + k) W') (hl : l'.length = l.length) (hk : 1 ≤ k ∧ k ≤ 6) (hg : N ≤ (adv N m st).1 → grows (lcX (lcT (adv N m st).2) % 5) = false) : txtMW c n N o' W' < txtMW c n N o W := by
  rw [h.meas, h'.meas, hl, ← adv_adv]
  exact txtM_stay h.cu.le h.cu.h64 hk.1 hk.2 hg
set_option maxHeartbeats 8000000 in
theorem l01Text_any (w0 : World) (c : Nat) (v : Value) (L : List Int) (hL : BRead w0 v L) (hN : L.length ≤ 1048576) (n : Nat) (hn : n ≤ 100000) (st : Nat × Int) (w : World) (h : Cu w0 c v L.length st w) :
    Calls Tryd.prog 261 #[.pointer (some ⟨c, 0, none⟩), .int .i64 n] w fun e w' => ∃ (t : ByteArray) (m : Nat), e = .returned (.string t) ∧ t.size = n ∧ Cu w0 c v L.length (adv L.length m st) w' ∧ Touch (fun x => x = c) (fun x => x = c) w w' := by
  have BL := Lib.hid (fun (q : Int) (hq : In64 q) st W h => l01Below_any w0 c v L hL hN q hq st W h)
  have BY := Lib.hid (fun st W h => l01Byte_any w0 c v L hL hN st W h)
  have hcw := lt_of_heap h.cb
  have H0 := Lib.hid (show TR w0 w c v L.length st (.slice (some ⟨w.heap.size, 0, none⟩) 0 0) [] 0 (w.alloc (.cells #[] 5)) from
    ⟨BRow.made [] (Nat.le_refl _) (by simp), by
      have e : adv L.length 0 st = st := by unfold adv lcN; have := h.le; rw [Nat.add_zero, Nat.min_eq_right this]
      rw [e]; exact h.stay ((Below.refl _ _).alloc (Nat.le_refl _) _), Touch.of_below ((Below.refl _ _).alloc (Nat.le_refl _) _), hcw⟩)
  clear h hL
  generalize L.length = N at *
  go_enter Tryd.func261, Tryd.ntmps261
  go_wp2_with fail
  go_loopw [5, 6, 7, 8, 9, 10, 11] (fun oo _ _ _ _ _ _ wr => ∃ (l : List UInt8) (m : Nat), l.length ≤ n + 20 ∧ TR w0 w c v N st oo l m wr) (fun oo _ _ _ _ _ _ wr => txtMW c n N oo wr)
  case atStart => exact ⟨[], 0, by simp, H0.out⟩
  case round =>
    obtain ⟨l, m, hl, htr⟩ := hrel
    have HTR := Lib.hid htr
    have hsz := htr.t.size
    obtain ⟨oa, oc, rfl⟩ := htr.row.slice
    clear htr
    by_cases hlt : l.length < n
    · go_wp2_with fail
      refine (BL.out 5 (by unfold In64; omega) _ wr HTR.out.cu).mono ?_
      rintro e1 w1 ⟨x, m1, rfl, hx0, hx1, -, -, hx5, hcu1, ht1⟩
      obtain ⟨rfl, hxg⟩ := hx5 (by omega) (by omega)
      have HTR1 := Lib.hid (HTR.out.call hcu1 ht1)
      have HXG := Lib.hid hxg
      have hsz1 := HTR1.out.t.size
      clear hcu1 ht1 hx5 hxg
      have hx4 : x = 0 ∨ x = 1 ∨ x = 2 ∨ (x = 3 ∨ x = 4) := by omega
      rcases hx4 with rfl | rfl | rfl | hx34
      · go_wp2_with fail
        refine (BY.out _ w1 HTR1.out.cu).mono ?_
        rintro e2 w2 ⟨y, rfl, hy0, hy1, -, hcu2, ht2⟩
        have HTR2 := Lib.hid (HTR1.out.call hcu2 ht2)
        have hsz2 := HTR2.out.t.size
        clear hcu2 ht2
        go_wp2_with (at_builtin; refine app_bytes rfl _ _ _ rfl w.heap.size _ l rfl (HTR2.out.row.keep ((Below.refl _ _).alloc (Nat.le_refl _) _)) _ rfl _ (src_new _ _ (by omega) (by omega)) (by simp; omega) (by simp; omega) ?_; intro v' w3 hrow' hg' _; have HR2 := Lib.hid hrow'; have HG2 := Lib.hid hg'; obtain ⟨oa2, on2, oc2, rfl⟩ : ∃ p q r, v' = .slice p q r := by { obtain ⟨p, q, e⟩ := hrow'.slice; exact ⟨p, _, q, e⟩ }; clear hrow' hg')
        have HT3 := Lib.hid (HTR2.out.app ((Below.refl _ _).alloc (Nat.le_refl _) _) HG2.out HR2.out)
        go_roundw
        case rel => exact ⟨_, _, by rw [List.length_append]; simp; omega, HT3.out⟩
        case measure => exact HTR.out.less HT3.out hN (by rw [List.length_append]; simp) hlt
      · go_wp2_with fail
        refine (BL.out 9 (by unfold In64; omega) _ w1 HTR1.out.cu).mono ?_
        rintro e2 w2 ⟨k, m2, rfl, hk0, hk1, -, -, hk5, hcu2, ht2⟩
        obtain ⟨rfl, -⟩ := hk5 (by omega) (by omega)
        have HTR2 := Lib.hid (HTR1.out.call hcu2 ht2)
        have hsz2 := HTR2.out.t.size
        clear hcu2 ht2 hk5
        have hk9 : k < 9 := by omega
        clear hk1
        go_wp2_with fail
        refine (BL.out 4 (by unfold In64; omega) _ w2 HTR2.out.cu).mono ?_
        rintro e3 w3 ⟨y, m3, rfl, hy0, hy1, -, -, hy5, hcu3, ht3⟩
        obtain ⟨rfl, -⟩ := hy5 (by omega) (by omega)
        have HTR3 := Lib.hid (HTR2.out.call hcu3 ht3)
        have hsz3 := HTR3.out.t.size
        clear hcu3 ht3 hy5
        have hy4 : y < 4 := by omega
        clear hy1
        go_wp2_with fail
        go_loopw [5, 8] (fun o2 ii wq => ∃ (i : Nat) (l2 : List UInt8), ii = .int .i64 i ∧ (i : Int) ≤ k ∧ l2.length = l.length + i ∧ TR w0 w c v N st o2 l2 (m + 1 + 1 + 1) wq) (fun _ ii _ => (k - intOf ii).toNat)
        case atStart => exact ⟨0, l, rfl, by omega, rfl, HTR3.out⟩
        case round =>
          obtain ⟨i, l2, rfl, hik, hl2, htr4⟩ := hrel
          have HTR4 := Lib.hid htr4
          have hsz4 := htr4.t.size
          obtain ⟨ob, oe, rfl⟩ := htr4.row.slice
          clear htr4
          by_cases hik2 : (i : Int) < k
          · go_wp2_with (at_builtin; refine app_bytes rfl _ _ _ rfl w.heap.size _ l2 rfl (HTR4.out.row.keep ((Below.refl _ _).alloc (Nat.le_refl _) _)) _ rfl _ (src_new _ _ (by omega) (by omega)) (by simp; omega) (by simp; omega) ?_; intro v' w5 hrow' hg' _; have HR2 := Lib.hid hrow'; have HG2 := Lib.hid hg'; obtain ⟨oa2, on2, oc2, rfl⟩ : ∃ p q r, v' = .slice p q r := by { obtain ⟨p, q, e⟩ := hrow'.slice; exact ⟨p, _, q, e⟩ }; clear hrow' hg')
            have HT5 := Lib.hid (HTR4.out.app ((Below.refl _ _).alloc (Nat.le_refl _) _) HG2.out HR2.out)
            go_roundw
            case rel => exact ⟨i + 1, _, by push_cast; rfl, by omega, by rw [List.length_append]; simp; omega, HT5.out⟩
            case measure => simp only [intOf]; omega
          · go_wp2_with fail
            go_roundw
            case rel => exact ⟨l2, _, by omega, HTR4.out⟩
            case measure =>
              by_cases hi0 : i = 0
              · exact HTR.out.same (k := 1 + 1 + 1) HTR4.out (by omega) (by omega) (fun h => by rw [← HXG.out h]; rfl)
              · exact HTR.out.less HTR4.out hN (by omega) hlt
      · by_cases hl0 : l.length = 0
        · obtain rfl : l = [] := List.eq_nil_of_length_eq_zero hl0
          go_wp2_with fail
          go_roundw
          case rel => exact ⟨[], _, by simp, HTR1.out⟩
          case measure => exact HTR.out.same (k := 1) HTR1.out (by omega) (by omega) (fun h => by rw [← HXG.out h]; rfl)
        · go_wp2_with fail
          refine (BL.out l.length (by unfold In64; omega) _ w1 HTR1.out.cu).mono ?_
          rintro e2 w2 ⟨f, m2, rfl, hf0, hf1, hm4, -, -, hcu2, ht2⟩
          have HTR2 := Lib.hid (HTR1.out.call hcu2 ht2)
          have hsz2 := HTR2.out.t.size
          clear hcu2 ht2
          have hfl : f < l.length := by omega
          clear hf1
          go_wp2_with fail
          refine (BL.out 20 (by unfold In64; omega) _ w2 HTR2.out.cu).mono ?_
          rintro e3 w3 ⟨k, m3, rfl, hk0, hk1, -, -, hk5, hcu3, ht3⟩
          obtain ⟨rfl, -⟩ := hk5 (by omega) (by omega)
          have HTR3 := Lib.hid (HTR2.out.call hcu3 ht3)
          have hsz3 := HTR3.out.t.size
          clear hcu3 ht3 hk5
          have hk20 : k < 20 := by omega
          clear hk1
          go_wp2_with fail
          go_loopw [5, 11] (fun o2 ii wq => ∃ (i : Nat) (l2 : List UInt8), ii = .int .i64 i ∧ (i : Int) ≤ k ∧ l2.length = l.length + i ∧ TR w0 w c v N st o2 l2 (m + 1 + m2 + 1) wq) (fun _ ii _ => (k - intOf ii).toNat)
          case atStart => exact ⟨0, l, rfl, by omega, rfl, HTR3.out⟩
          case round =>
            obtain ⟨i, l2, rfl, hik, hl2, htr4⟩ := hrel
            have HTR4 := Lib.hid htr4
            have hsz4 := htr4.t.size
            have hfi : f + i < l2.length := by omega
            obtain ⟨f', rfl⟩ : ∃ f' : Nat, f = f' := ⟨f.toNat, by omega⟩
            obtain ⟨ob, oe, rfl, hob1, hob2, hoe, hcell⟩ := htr4.row.at (j := f' + i) (by omega)
            have hby : l2[f' + i].toNat < 256 := UInt8.toNat_lt _
            clear htr4
            by_cases hik2 : (i : Int) < k
            · go_wp2_with (at_builtin; refine app_bytes rfl _ _ _ rfl w.heap.size _ l2 rfl (HTR4.out.row.keep ((Below.refl _ _).alloc (Nat.le_refl _) _)) _ rfl _ (src_new _ _ (by omega) (by omega)) (by simp; omega) (by simp; omega) ?_; intro v' w5 hrow' hg' _; have HR2 := Lib.hid hrow'; have HG2 := Lib.hid hg'; obtain ⟨oa2, on2, oc2, rfl⟩ : ∃ p q r, v' = .slice p q r := by { obtain ⟨p, q, e⟩ := hrow'.slice; exact ⟨p, _, q, e⟩ }; clear hrow' hg')
              have HT5 := Lib.hid (HTR4.out.app ((Below.refl _ _).alloc (Nat.le_refl _) _) HG2.out HR2.out)
              go_roundw
              case rel => exact ⟨i + 1, _, by push_cast; rfl, by omega, by rw [List.length_append]; simp; omega, HT5.out⟩
              case measure => simp only [intOf]; omega
            · go_wp2_with fail
              go_roundw
              case rel => exact ⟨l2, _, by omega, HTR4.out⟩
              case measure =>
                by_cases hi0 : i = 0
                · have HX := HTR4.out
                  rw [show m + 1 + m2 + 1 = m + (1 + m2 + 1) by omega] at HX
                  exact HTR.out.same HX (by omega) (by omega) (fun h => by rw [← HXG.out h]; rfl)
                · exact HTR.out.less HTR4.out hN (by omega) hlt
      · go_wp2_with fail
        refine (BL.out 26 (by unfold In64; omega) _ w1 HTR1.out.cu).mono ?_
        rintro e2 w2 ⟨y, m2, rfl, hy0, hy1, -, -, hy5, hcu2, ht2⟩
        have HTR2 := Lib.hid (HTR1.out.call hcu2 ht2)
        have hsz2 := HTR2.out.t.size
        clear hcu2 ht2 hy5
        have hy26 : y < 26 := by omega
        clear hy1
        go_wp2_with (at_builtin; refine app_bytes rfl _ _ _ rfl w.heap.size _ l rfl (HTR2.out.row.keep ((Below.refl _ _).alloc (Nat.le_refl _) _)) _ rfl _ (src_new _ _ (by omega) (by omega)) (by simp; omega) (by simp; omega) ?_; intro v' w3 hrow' hg' _; have HR2 := Lib.hid hrow'; have HG2 := Lib.hid hg'; obtain ⟨oa2, on2, oc2, rfl⟩ : ∃ p q r, v' = .slice p q r := by { obtain ⟨p, q, e⟩ := hrow'.slice; exact ⟨p, _, q, e⟩ }; clear hrow' hg')
        have HT3 := Lib.hid (HTR2.out.app ((Below.refl _ _).alloc (Nat.le_refl _) _) HG2.out HR2.out)
        go_roundw
        case rel => exact ⟨_, _, by rw [List.length_append]; simp; omega, HT3.out⟩
        case measure => exact HTR.out.less HT3.out hN (by rw [List.length_append]; simp) hlt
    · have hle : n ≤ l.length := by omega
      have R := Lib.hid (run_str (HTR.out.row.cut hle))
      have hno : n ≤ oc := by
        rcases HTR.out.row.2 with ⟨hv, h2⟩ | ⟨g, cap, cur, hv, hb, hg, hn2, -⟩
        · simp only [h2, List.length_nil] at hle; omega
        · simp only [Value.slice.injEq] at hv
          obtain ⟨-, -, rfl⟩ := hv
          omega
      go_wp2_with fail
      rw [R.out]
      go_wp2_with fail
      go_ret
      refine ⟨_, m, rfl, ?_, HTR.out.cu, HTR.out.t⟩
      simp [ByteArray.size]
      omega
end Go.Proofs.YtgbgeocmjdgmoaaDoor
namespace Go.Proofs.YtgbgeocmjdgmoaaDoor
set_option linter.unusedSimpArgs false
set_option linter.unusedVariables false
set_option maxRecDepth 100000
open Go.RowKit
def txt (s : ByteArray) : Bool := Lib.validD s.data.toList
mutual
def V.dec : (a b : V) → Decidable (a = b)
  | .mk k n e s ks, .mk k' n' e' s' ks' =>
    if h1 : k = k' ∧ n = n' ∧ e = e' ∧ s = s' then
      match decs ks ks' with
      | isTrue h => isTrue (by obtain ⟨rfl, rfl, rfl, rfl⟩ := h1; rw [h])
      | isFalse h => isFalse (fun x => h (by injection x))
    else isFalse (fun x => h1 (by injection x with a b c d; exact ⟨a, b, c, d⟩))
def decs : (a b : List V) → Decidable (a = b)
  | [], [] => isTrue rfl
  | [], _ :: _ => isFalse (by simp)
  | _ :: _, [] => isFalse (by simp)
  | a :: xs, b :: bs => match V.dec a b with
    | isFalse h => isFalse (fun x => h (by injection x))
    | isTrue h => match decs xs bs with
      | isTrue h2 => isTrue (by rw [h, h2])
      | isFalse h2 => isFalse (fun x => h2 (by injection x))
 end
instance : DecidableEq V := V.dec
def fits10 (n : Int) : Nat → Option Int
  | 0 => some n
  | e + 1 => if -9223372036854775808 ≤ n * 10 ∧ n * 10 ≤ 9223372036854775807 then fits10 (n * 10) e else none
def decOk (n e : Int) : Bool :=
  decide (n.tmod 10 ≠ 0 ∧ -999999999999999999 ≤ n ∧ n ≤ 999999999999999999 ∧ -20 ≤ e ∧ e ≤ 20 ∧ e ≠ 0) && !(decide (0 < e) && (fits10 n e.toNat).isSome)
def isKeyB (t : V) : Bool := decide (t.k = 5 ∨ t.k = 3)
def evV : List V → List V
  | [] => []
  | [t] => [t]
  | t :: _ :: ts => t :: evV ts
def keyEq (a b : V) : Prop := a.k = b.k ∧ a.n = b.n ∧ a.s = b.s
instance (a b : V) : Decidable (keyEq a b) := by unfold keyEq; exact inferInstance
def keysB (eq : V → V → Bool) (ts : List V) : Bool := ts.all isKeyB && decide (ts.Pairwise fun a b => eq a b = false)
def pairsB (ts : List V) : Bool := keysB (fun a b => decide (keyEq a b)) (evV ts) && decide (ts.length % 2 = 0) && decide (ts.length ≤ 300)
def pairsI (ts : List V) : Bool := keysB (fun a b => decide (a = b)) (evV ts) && decide (ts.length % 2 = 0)
def nodeB (t : V) : Bool :=
  if t.k = 0 ∨ t.k = 1 ∨ t.k = 2 ∨ t.k = 7 ∨ t.k = 8 then decide (t.n = 0 ∧ t.e = 0 ∧ t.s.size = 0)
  else if t.k = 3 then decide (t.e = 0 ∧ t.s.size = 0)
  else if t.k = 4 then decOk t.n t.e && decide (t.s.size = 0)
  else if t.k = 5 then decide (t.n = 0 ∧ t.e = 0 ∧ t.s.size ≤ 2000) && txt t.s
  else if t.k = 6 then decide (t.n = 0 ∧ t.e = 0 ∧ t.s.size ≤ 2000)
  else if t.k = 9 then decide (0 ≤ t.n ∧ t.n ≤ 1000000 ∧ t.e = 0 ∧ t.s.size = 0)
  else false
def areB (t : V) : Bool :=
  if t.k = 7 then true else if t.k = 9 then decide (t.kids.length = 1) else if t.k = 8 then pairsI t.kids else decide (t.kids.length = 0)
def ownB (t : V) : Bool :=
  nodeB t && (if t.k = 7 then true else if t.k = 9 then decide (t.kids.length = 1) else if t.k = 8 then pairsB t.kids else decide (t.kids.length = 0))
mutual
def rightB : V → Int → Bool
  | .mk k n e s ks, d => decide (0 ≤ d) && ownB (.mk k n e s ks) && rightsB ks (d - 1)
def rightsB : List V → Int → Bool
  | [], _ => true
  | t :: ts, d => rightB t d && rightsB ts d
 end
mutual
def V.nodes : V → Nat
  | .mk _ _ _ _ ks => 1 + nodess ks
def nodess : List V → Nat
  | [] => 0
  | t :: ts => t.nodes + nodess ts
 end
theorem V.nodes_eq (t : V) : t.nodes = 1 + nodess t.kids := by cases t; rw [V.nodes]; rfl
theorem rightB_eq (t : V) (d : Int) : rightB t d = (decide (0 ≤ d) && ownB t && rightsB t.kids (d - 1)) := by cases t; rw [rightB]; rfl
theorem nodess_length : ∀ ts : List V, ts.length ≤ nodess ts
  | [] => by simp
  | t :: ts => by have := nodess_length ts; have := V.nodes_eq t; simp only [nodess, List.length_cons]; omega
theorem nodess_append : ∀ a b : List V, nodess (a ++ b) = nodess a + nodess b
  | [], b => by simp [nodess]
  | t :: a, b => by simp only [List.cons_append, nodess, nodess_append a b]; omega
mutual
theorem nodes_sz : ∀ t : V, t.nodes ≤ 1 + t.sz
  | .mk k n e s ks => by have := nodess_sz ks; simp only [V.nodes, V.sz]; omega
theorem nodess_sz : ∀ ts : List V, nodess ts ≤ szs ts
  | [] => by simp [nodess]
  | t :: ts => by have h1 := nodes_sz t; have h2 := nodess_sz ts; simp only [nodess, szs]; omega
 end
def okT (t : V) : Bool := rightB t 12 && decide (t.nodes ≤ 300)
theorem rightsB_all (ts : List V) (d : Int) : rightsB ts d = ts.all fun t => rightB t d := by
  induction ts with
  | nil => rfl
  | cons t ts ih => simp only [rightsB, List.all_cons, ih]
def impStep (t : V) (d L : Int) : Bool := decide (0 ≤ L - 1 ∧ d ≤ 12 ∧ (t.kids.length : Int) ≤ L - 1) && nodeB t && areB t
mutual
def imp : V → Int → Int → Option Int
  | .mk k n e s ks, d, L => if impStep (.mk k n e s ks) d L then imps ks (d + 1) (L - 1) else none
def imps : List V → Int → Int → Option Int
  | [], _, L => some L
  | t :: ts, d, L => (imp t d L).bind fun L' => imps ts d L'
 end
theorem imp_eq (t : V) (d L : Int) : imp t d L = if impStep t d L then imps t.kids (d + 1) (L - 1) else none := by cases t; rw [imp]; rfl
theorem mem_evV {t : V} : ∀ {ts : List V}, t ∈ evV ts → t ∈ ts
  | [], h => by simp [evV] at h
  | [u], h => by simpa [evV] using h
  | u :: v :: ts, h => by
    simp only [evV, List.mem_cons] at h
    rcases h with h | h
    · simp [h]
    · have := mem_evV h; simp [this]
theorem ba_empty {s : ByteArray} (h : s.size = 0) : s = ⟨#[]⟩ := by cases s; rename_i d; simp [ByteArray.size] at h; simp [h]
theorem key_full {t : V} (hk : isKeyB t = true) (hn : nodeB t = true) (hr : t.kids.length = 0) : t = if t.k = 5 then .mk 5 0 0 t.s [] else .mk 3 t.n 0 ⟨#[]⟩ [] := by
  have hk' : t.k = 5 ∨ t.k = 3 := of_decide_eq_true hk
  have hr' : t.kids = [] := List.eq_nil_of_length_eq_zero hr
  have he := V.eta t
  unfold nodeB at hn
  rcases hk' with h5 | h3
  · rw [if_pos h5]
    rw [if_neg (by omega), if_neg (by omega), if_neg (by omega), if_pos h5] at hn
    simp only [Bool.and_eq_true, decide_eq_true_eq] at hn
    rw [h5, hn.1.1, hn.1.2.1, hr'] at he
    exact he.symm
  · rw [if_neg (by omega)]
    rw [if_neg (by omega), if_pos h3] at hn
    simp only [decide_eq_true_eq] at hn
    rw [h3, hn.1, ba_empty hn.2, hr'] at he
    exact he.symm
theorem keyEq_iff {a b : V} (ha : isKeyB a = true ∧ nodeB a = true ∧ a.kids.length = 0) (hb : isKeyB b = true ∧ nodeB b = true ∧ b.kids.length = 0) : keyEq a b ↔ a = b := by
  constructor
  · rintro ⟨h1, h2, h3⟩
    rw [key_full ha.1 ha.2.1 ha.2.2, key_full hb.1 hb.2.1 hb.2.2, h1, h2, h3]
  · rintro rfl; exact ⟨rfl, rfl, rfl⟩
theorem pairwise_congr {α : Type} {R S : α → α → Prop} {l : List α} (h : ∀ a ∈ l, ∀ b ∈ l, R a b ↔ S a b) : l.Pairwise R ↔ l.Pairwise S := by
  induction l with
  | nil => simp
  | cons x l ih =>
    simp only [List.pairwise_cons]
    rw [ih (fun a ha b hb => h a (List.mem_cons_of_mem _ ha) b (List.mem_cons_of_mem _ hb))]
    constructor
    · rintro ⟨h1, h2⟩; exact ⟨fun a ha => (h x (List.mem_cons_self ..) a (List.mem_cons_of_mem _ ha)).1 (h1 a ha), h2⟩
    · rintro ⟨h1, h2⟩; exact ⟨fun a ha => (h x (List.mem_cons_self ..) a (List.mem_cons_of_mem _ ha)).2 (h1 a ha), h2⟩
theorem rightB_leaf {t : V} {d : Int} (h : rightB t d = true) : nodeB t = true ∧ (isKeyB t = true → t.kids.length = 0) := by
  rw [rightB_eq] at h
  simp only [Bool.and_eq_true, ownB] at h
  refine ⟨h.1.2.1, fun hk => ?_⟩
  have h2 := h.1.2.2
  simp only [isKeyB, decide_eq_true_eq] at hk
  rw [if_neg (by omega), if_neg (by omega), if_neg (by omega)] at h2
  simpa using h2
theorem pairs_same {ts : List V} {d : Int} (h : rightsB ts d = true) (hl : ts.length ≤ 300) : pairsB ts = pairsI ts := by
  rw [rightsB_all, List.all_eq_true] at h
  unfold pairsB pairsI keysB
  rw [decide_eq_true hl, Bool.and_true]
  congr 1
  by_cases ha : (evV ts).all isKeyB = true
  · rw [ha, Bool.true_and, Bool.true_and, decide_eq_decide]
    rw [List.all_eq_true] at ha
    apply pairwise_congr
    intro a hA b hB
    have h1 := rightB_leaf (h a (mem_evV hA))
    have h2 := rightB_leaf (h b (mem_evV hB))
    rw [decide_eq_false_iff_not, decide_eq_false_iff_not, keyEq_iff ⟨ha a hA, h1.1, h1.2 (ha a hA)⟩ ⟨ha b hB, h2.1, h2.2 (ha b hB)⟩]
  · rw [Bool.eq_false_iff.2 ha, Bool.false_and, Bool.false_and]
theorem own_are {t : V} {d : Int} (h : rightsB t.kids d = true) (hl : t.kids.length ≤ 300) : ownB t = (nodeB t && areB t) := by
  unfold ownB areB
  rw [pairs_same h hl]
mutual
theorem imp_is : ∀ (t : V) (d L : Int), 0 ≤ d → 0 ≤ L → L ≤ 300 → imp t d L = if rightB t (12 - d) = true ∧ (t.nodes : Int) ≤ L then some (L - t.nodes) else none
  | .mk k n e s ks, d, L, hd, hL, hL3 => by
    have hlen := nodess_length ks
    rw [imp, rightB, V.nodes]
    by_cases h1 : 0 ≤ L - 1
    · rw [imps_is ks (d + 1) (L - 1) (by omega) h1 (by omega)]
      rw [show 12 - (d + 1) = 12 - d - 1 by omega]
      by_cases hr : rightsB ks (12 - d - 1) = true ∧ (nodess ks : Int) ≤ L - 1
      · rw [if_pos hr]
        have ho := own_are (t := .mk k n e s ks) hr.1 (by simp only [V.kids]; omega)
        rw [ho]
        by_cases hs : impStep (.mk k n e s ks) d L = true
        · rw [if_pos hs]
          simp only [impStep, Bool.and_eq_true] at hs
          have hd1 := of_decide_eq_true hs.1.1
          rw [if_pos ⟨by rw [decide_eq_true (show 0 ≤ 12 - d by omega), hr.1, hs.1.2, hs.2]; rfl, by omega⟩]
          congr 1; omega
        · rw [if_neg hs, if_neg]
          rintro ⟨h2, h3⟩
          simp only [Bool.and_eq_true, decide_eq_true_eq] at h2
          apply hs
          simp only [impStep, Bool.and_eq_true]
          exact ⟨⟨decide_eq_true ⟨h1, by omega, by show (ks.length : Int) ≤ _; omega⟩, h2.1.2.1⟩, h2.1.2.2⟩
      · rw [if_neg hr]
        have hno : ¬ ((decide (0 ≤ 12 - d) && ownB (.mk k n e s ks) && rightsB ks (12 - d - 1)) = true ∧ ((1 + nodess ks : Nat) : Int) ≤ L) := by
          rintro ⟨h2, h3⟩
          simp only [Bool.and_eq_true] at h2
          exact hr ⟨h2.2, by omega⟩
        rw [if_neg hno]
        split <;> rfl
    · rw [if_neg, if_neg]
      · rintro ⟨_, h3⟩; omega
      · simp [impStep]; omega
theorem imps_is : ∀ (ts : List V) (d L : Int), 0 ≤ d → 0 ≤ L → L ≤ 300 → imps ts d L = if rightsB ts (12 - d) = true ∧ (nodess ts : Int) ≤ L then some (L - nodess ts) else none
  | [], d, L, hd, hL, hL3 => by rw [imps, if_pos ⟨rfl, by simpa [nodess] using hL⟩]; simp [nodess]
  | t :: ts, d, L, hd, hL, hL3 => by
    rw [imps, imp_is t d L hd hL hL3, rightsB, nodess]
    by_cases h1 : rightB t (12 - d) = true ∧ (t.nodes : Int) ≤ L
    · rw [if_pos h1, Option.bind_some, imps_is ts d (L - t.nodes) hd (by omega) (by omega)]
      by_cases h2 : rightsB ts (12 - d) = true ∧ (nodess ts : Int) ≤ L - t.nodes
      · rw [if_pos h2, if_pos ⟨by rw [h1.1, h2.1]; rfl, by omega⟩]; congr 1; omega
      · rw [if_neg h2, if_neg]
        rintro ⟨h3, h4⟩
        simp only [Bool.and_eq_true] at h3
        exact h2 ⟨h3.2, by omega⟩
    · rw [if_neg h1, if_neg]
      · rfl
      · rintro ⟨h3, h4⟩
        simp only [Bool.and_eq_true] at h3
        exact h1 ⟨h3.1, by omega⟩
 end
theorem imp_ok (t : V) : (imp t 0 300).isSome = okT t := by
  rw [imp_is t 0 300 (by omega) (by omega) (by omega)]
  unfold okT
  rw [show (12 : Int) - 0 = 12 by omega]
  by_cases h : rightB t 12 = true ∧ (t.nodes : Int) ≤ 300
  · rw [if_pos h]; simp [h.1]; omega
  · rw [if_neg h]
    cases h2 : rightB t 12
    · rfl
    · simp [h2] at h; simp; omega
end Go.Proofs.YtgbgeocmjdgmoaaDoor
namespace Go.Proofs.YtgbgeocmjdgmoaaDoor
set_option linter.unusedSimpArgs false
set_option linter.unusedVariables false
set_option maxRecDepth 100000
open Go.ChangeShapes Go.WideShapes Go.ChangeAt Go.RowKit
theorem lawOwn : ownKnob Tryd.prog.godebug = none := by kernel_rfl
theorem lawLaidOut : laidOutB Tryd.prog = true := by kernel_rfl
def LawRet (w : World) (e : Ending) (w' : World) : Prop := e = .returned (.bool true) ∧ Below w.heap.size w w'
theorem trodAll_stays {H : Type} {enc : TypeId × Value → H} {W W' : World} (hb : Below W.heap.size W W') :
    ∀ (ts : List TypeId) (vs : List Value) (ds : List (DataW H)) (ps : List MemPlace), (∀ t ∈ ts, Tryd.prog.readableRec t = true ∧ t < Tryd.prog.types.size) →
      DataW.TrodAll enc Tryd.prog W 0 (fun _ => true) true ts vs ds ps → (∀ x ∈ ps, x.block < W.heap.size) →
      DataW.TrodAll enc Tryd.prog W' 0 (fun b => decide (b < W.heap.size)) true ts vs ds ps
  | [], vs, ds, ps, _, h, _ => by obtain ⟨rfl, rfl, rfl⟩ := trodAll_nil h; exact trodAll_mk0
  | t :: ts, vs, ds, ps, hr, h, hlt => by
    obtain ⟨v, vs', d, ds', p, q, rfl, rfl, rfl, h0, h1⟩ := trodAll_cons h
    have ht := hr t (List.mem_cons_self ..)
    exact trodAll_cons_mk (Below.trod lawLaidOut ht.1 ht.2 h0 hb (fun x hx => hlt x (List.mem_append_left _ hx)))
      (trodAll_stays hb ts vs' ds' q (fun t ht => hr t (List.mem_cons_of_mem _ ht)) h1 (fun x hx => hlt x (List.mem_append_right _ hx)))
theorem law_post {H : Type} {enc : TypeId × Value → H} {f : Func} {s : ChangeSpec} {W W' : World} {args : Array Value} {ds gs : List (DataW H)} {before : List MemPlace}
    (hvars : s.vars = []) (hres : f.resultTypes = #[4]) (hfn : s.fn H ds = { results := [.lit (.bool true)], args := ds })
    (hread : ∀ t ∈ f.params.toList, Tryd.prog.readableRec t = true ∧ t < Tryd.prog.types.size)
    (hW : DataW.Whole enc Tryd.prog f.params.toList s.vars false W args.toList ds gs before)
    (hb : Below W.heap.size W W') : s.post enc Tryd.prog f false true false false W args (.bool true) W' := by
  have hlt := hW.lt
  have hW0 := hW
  obtain ⟨p, q, hA, hV, rfl, hfz, hnd⟩ := hW
  rw [hvars] at hV
  obtain ⟨rfl, rfl⟩ := trodVars_none hV
  have e0 : s.fn H (ds ++ []) = { results := [.lit (.bool true)], args := ds } := by rw [List.append_nil, hfn]
  refine ⟨ds, [], p ++ [], [], p, [], hW0, ?_, ?_, ?_, hb.frame _, fun h => by cases h⟩
  · rw [e0, hres]
    exact trodAll_cons_mk (shut_bool Tryd.underlying4 _) trodAll_mk0
  · rw [e0]
    exact trodAll_stays hb _ _ _ _ hread hA (fun x hx => hlt x (List.mem_append_left _ hx))
  · rw [e0, hvars]
    exact hV
end Go.Proofs.YtgbgeocmjdgmoaaDoor
namespace Go.Proofs.YtgbgeocmjdgmoaaDoor
set_option linter.unusedSimpArgs false
set_option linter.unusedVariables false
set_option maxRecDepth 100000
open Go.RowKit
def Box (w : World) (b : Nat) (k n e : Int) (s : ByteArray) (sl : Value) (T : TypeId) : Prop := w.heap[b]? = some (.cells #[.int .i64 k, .int .i64 n, .int .i64 e, .string s, sl] T (0, 0))
theorem Box.cells {w : World} {b : Nat} {k n e : Int} {s : ByteArray} {sl : Value} {T : TypeId} (h : Box w b k n e s sl T) :
    w.cell? ⟨b, 0, none⟩ = some (.int .i64 k) ∧ w.cell? ⟨b, 1, none⟩ = some (.int .i64 n) ∧ w.cell? ⟨b, 2, none⟩ = some (.int .i64 e) ∧ w.cell? ⟨b, 3, none⟩ = some (.string s) ∧ w.cell? ⟨b, 4, none⟩ = some sl := by
  unfold Box at h
  refine ⟨?_, ?_, ?_, ?_, ?_⟩ <;> (rw [cell_of_row w b _ _ _ (0, 0) h]; rfl)
theorem Box.lt {w : World} {b : Nat} {k n e : Int} {s : ByteArray} {sl : Value} {T : TypeId} (h : Box w b k n e s sl T) : b < w.heap.size := lt_of_heap h
theorem Box.keep {w w' : World} {B b : Nat} {k n e : Int} {s : ByteArray} {sl : Value} {T : TypeId} (h : Box w b k n e s sl T) (hb : Below B w w') (hB : w.heap.size ≤ B) : Box w' b k n e s sl T :=
  (hb.block b (Nat.lt_of_lt_of_le h.lt hB)).trans h
theorem Box.stay {w w' : World} {b : Nat} {k n e : Int} {s : ByteArray} {sl : Value} {T : TypeId} (h : Box w b k n e s sl T) (hb : Below w.heap.size w w') : Box w' b k n e s sl T := h.keep hb (Nat.le_refl _)
theorem Box.alloc {w : World} {b : Nat} {k n e : Int} {s : ByteArray} {sl : Value} {T : TypeId} (h : Box w b k n e s sl T) (o : Obj) : Box (w.alloc o) b k n e s sl T := (heap_alloc_old w o h.lt).trans h
theorem Box.new (w : World) (k n e : Int) (s : ByteArray) (sl : Value) (T : TypeId) : Box (w.alloc (.cells #[.int .i64 k, .int .i64 n, .int .i64 e, .string s, sl] T)) w.heap.size k n e s sl T := heap_alloc_new w _
end Go.Proofs.YtgbgeocmjdgmoaaDoor
