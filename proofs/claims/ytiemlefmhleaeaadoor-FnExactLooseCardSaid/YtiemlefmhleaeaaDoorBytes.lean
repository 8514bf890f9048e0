/- Plain laws over rows of memory that a call itself made: an append of whatever source, with the new row's place told. No program in sight. Rows of bytes that a call itself made: appends, and what string(b) gives. The bytes of a number, the highest first: what spec.l05Big returns. -/
import Derived.WalkKit
import Derived.WalkSpells
import Derived.Deep.AppendSrc
import Derived.Laws.IdiomCopy
import Derived.Deep.Upon
import Derived.Lib.Hide
import Derived.WalkSmall
import Derived.Test.YtiemlefmhleaeaaDoorRows
import Derived.ProofKit
namespace Go.Proofs.YtiemlefmhleaeaaDoor
set_option linter.unusedVariables false
set_option maxRecDepth 100000
open Go.RowKit

theorem heap_setCells_same (g : Nat) (e : TypeId) : ∀ (vs : List Value) (o : Nat) (w : World) (cur : Array Value), w.heap[g]? = some (.cells cur e (0, 0)) → o + vs.length ≤ cur.size →
    ∃ cur', (w.setCells g o vs).heap[g]? = some (.cells cur' e (0, 0)) ∧ cur'.size = cur.size ∧ cur'.toList = cur.toList.take o ++ vs ++ cur.toList.drop (o + vs.length)
  | [], o, w, cur, h, _ => ⟨cur, h, rfl, by simp⟩
  | v :: vs, o, w, cur, h, hl => by
    simp only [List.length_cons] at hl
    have h1 := heap_setCell_same w g o cur e v h
    obtain ⟨cur', h2, h3, h4⟩ := heap_setCells_same g e vs (o + 1) (w.setCell ⟨g, o, none⟩ v) _ h1 (by simp; omega)
    refine ⟨cur', h2, by rw [h3]; simp, ?_⟩
    rw [h4]
    have ho : o < cur.toList.length := by rw [Array.length_toList]; omega
    simp only [Array.toList_setIfInBounds, List.length_cons]
    rw [List.take_set, List.drop_set_of_lt (by omega), List.take_succ_eq_append_getElem ho]
    have h5 : (List.take o cur.toList ++ [cur.toList[o]]).set o v = List.take o cur.toList ++ [v] := by
      have h6 : (List.take o cur.toList).length = o := by rw [List.length_take]; omega
      rw [List.set_append, if_neg (by omega), h6, Nat.sub_self]
      rfl
    rw [h5, show o + 1 + vs.length = o + (vs.length + 1) by omega]
    simp

theorem below_step {B : Nat} {a b c : World} (h : Below B a b) (h2 : Below b.heap.size b c) (hB : B ≤ a.heap.size) : Below B a c :=
  h.trans (h2.mono (Nat.le_trans hB h.size))
theorem below_mark {B C : Nat} {a b c : World} (h : Below B a b) (h2 : Below C b c) (hB : B ≤ C) : Below B a c := h.trans (h2.mono hB)
theorem below_alloc {B : Nat} {a w : World} (h : Below B a w) (o : Obj) (hB : B ≤ a.heap.size) : Below B a (w.alloc o) := h.alloc (Nat.le_trans hB h.size) o
/-- the block of a new row: the old one, or one that was not there -/
def FreshOr (w : World) (v v' : Value) : Prop := v'.ownBlock = v.ownBlock ∨ v'.ownBlock = some w.heap.size

section
variable {P : Program} {w : World}

theorem run_app (base : Nat) (t tx ty e : TypeId) (i : TypeInfo) (z : Value) (size bytes : Nat) (ht : P.underlying t = some (.slice e)) (hi : P.info? e = some i) (hz : i.zero = some z)
    (hsize : i.size = size) (hby : i.bytes = bytes) (hzs : z.cells.size = size)
    (v : Value) (n : Nat) (xs : List Value) (hown : w.ownsRow base e size v n xs)
    (x : Value) (m : Nat) (news : List Value) (hs : Src P size tx x m news w)
    (h63 : n + m ≤ 1099511627776) (hb8 : bytes ≤ 128) (hbase : base ≤ w.heap.size) :
    ∃ v' w', (Builtin.append_ #[t, tx] ty #[v, x]).run P w = .ok v' w' ∧ w'.ownsRow base e size v' (n + m) (xs ++ news) ∧ w.grownBy w' v.ownBlock ∧ FreshOr w v v' ∧
      (v' = .slice none 0 0 ↔ v = .slice none 0 0 ∧ m = 0) := by
  subst hsize
  subst hby
  have hlen : (xs ++ news).length = (n + m) * i.size := by rw [List.length_append, hown.1, hs.newsLen, Nat.add_mul]
  have hbytes : (n + m) * i.bytes ≤ 140737488355328 := Nat.le_trans (Nat.mul_le_mul h63 hb8) (by decide)
  have grown : ∀ (old : Nat), old < n + m → ∀ (row : Option Nat),
      (w.drew.alloc (.cells ((xs ++ news).toArray ++ Builtin.zeroCells z.cells (grownCap w (n + m) old e - (n + m))) e)).ownsRow base e i.size
        (.slice (some ⟨w.heap.size, 0, none⟩) (n + m) (grownCap w (n + m) old e)) (n + m) (xs ++ news) ∧
      w.grownBy (w.drew.alloc (.cells ((xs ++ news).toArray ++ Builtin.zeroCells z.cells (grownCap w (n + m) old e - (n + m))) e)) row := by
    intro old ho row
    have hge := grownCap_ge w (n + m) old e
    have hcm : grownCap w (n + m) old e ≤ maxLen := grownCap_le_maxLen w (n + m) old e (by simp only [maxLen]; omega)
    refine ⟨⟨hlen, .inr ⟨w.heap.size, _, _, rfl, hbase, heap_alloc_new w.drew _, hge, hcm, ?_, ?_⟩⟩, ⟨rfl, rfl, rfl, by simp, fun k hk _ => heap_alloc_old w.drew _ hk⟩⟩
    · simp only [Array.size_append, List.size_toArray, size_zeroCells, hzs, hlen, ← Nat.add_mul]
      congr 1
      omega
    · simp only [Array.toList_append, ← hlen]
      exact List.take_left
  rcases hown.2 with ⟨rfl, rfl⟩ | ⟨g, cap, cur, rfl, hbg, hg, hnc, hcm, hcs, htake⟩
  · have hx : xs = [] := List.eq_nil_of_length_eq_zero (by simpa using hown.1)
    subst hx
    by_cases hm : m = 0
    · subst hm
      have hn : news = [] := List.eq_nil_of_length_eq_zero (by simpa using hs.newsLen)
      subst hn
      have hc := hs.cells
      refine ⟨.slice none 0 0, w, ?_, World.ownsRow_nil w base e i.size, ⟨rfl, rfl, rfl, Nat.le_refl _, fun _ _ _ => rfl⟩, .inl rfl, by simp⟩
      rcases hs.kind with ⟨e', hk⟩ | hk <;> simp [Builtin.append_, run_underlying ht, run_underlying hk, sizeOf, typeInfo, hi, hs.len, hc]
    · have hr := run_append_grow_src (P := P) w t tx ty e i z ht hi hz none 0 0 [] (run_firstCells_none w.drew i.size 0 0 0) x m news hs (by omega) (by omega) (by have hb := hbytes; exact growslice_fits (by omega) hb)
      have hgr := grown 0 (by omega) (Value.ownBlock (.slice none 0 0))
      simp only [Nat.zero_add, List.nil_append] at hgr hr ⊢
      exact ⟨_, _, hr, hgr.1, hgr.2, .inr rfl, by simp [hm]⟩
  · by_cases hroom : n + m ≤ cap
    · have hfit : n * i.size + news.length ≤ cur.size := by rw [hs.newsLen, hcs, ← Nat.add_mul]; exact Nat.mul_le_mul_right _ hroom
      have hr := run_append_room_src (P := P) w t tx ty e i ht hi g 0 n cap x m news hs hroom
        (by intro j hj; rw [cell_of_row w g _ cur e (0, 0) hg, Array.getElem?_eq_getElem (by omega)]; rfl) (by intro j hj; exact frozen_of_row w g _ cur e hg)
      obtain ⟨cur', h1, h2, h3⟩ := heap_setCells_same g e news (0 + n * i.size) w cur hg (by omega)
      refine ⟨_, _, hr, ⟨hlen, .inr ⟨g, cap, cur', rfl, hbg, h1, hroom, hcm, by rw [h2]; exact hcs, ?_⟩⟩, ⟨World.os_setCells .., ?_, World.output_setCells .., ?_, fun k hk hne => World.heap_setCells_other _ _ _ _ hk (fun e => hne (by simp [Value.ownBlock, e]))⟩, .inl rfl, by simp⟩
      · rw [h3, Nat.zero_add, htake, ← hlen]
        exact List.take_left
      · have : ∀ (vs : List Value) (o : Nat) (w : World), (w.setCells g o vs).tape = w.tape := by
          intro vs; induction vs with
          | nil => intro o w; rfl
          | cons v vs ih => intro o w; exact ih _ _
        exact this _ _ _
      · have : ∀ (vs : List Value) (o : Nat) (w : World), (w.setCells g o vs).heap.size = w.heap.size := by
          intro vs; induction vs with
          | nil => intro o w; rfl
          | cons v vs ih => intro o w; exact (ih _ _).trans (by simp)
        exact Nat.le_of_eq (this _ _ _).symm
    · have holds : ∀ j u, xs[j]? = some u → w.cell? ((⟨g, 0, none⟩ : Addr).add j) = some u := hown.cells (g := g) rfl
      have hr := run_append_grow_src (P := P) w t tx ty e i z ht hi hz (some ⟨g, 0, none⟩) n cap xs (run_firstCells_some w.drew i.size n ⟨g, 0, none⟩ n cap xs hown.1 (by simpa using holds)) x m news hs (by omega) (by omega) (growslice_fits (by omega) hbytes)
      have hgr := grown cap (by omega) (Value.ownBlock (.slice (some ⟨g, 0, none⟩) n cap))
      exact ⟨_, _, hr, hgr.1, hgr.2, .inr rfl, by simp⟩

/-- THE LAW FOR THE WALK. -/
theorem wpList_app {ops : Array Oper} {rest : List Oper} {o : Oper} {a : Act} {Q : Exit → Act → World → Prop} (hgd : o.guard = none) (s x : Operand) (t tx : TypeId)
    (ho : o.op = .call { callee := .builtin .append, args := #[s, x], argTypes := #[t, tx] })
    (base : Nat) (e : TypeId) (i : TypeInfo) (z : Value) (size bytes : Nat) (ht : P.underlying t = some (.slice e)) (hi : P.info? e = some i) (hz : i.zero = some z)
    (hsize : i.size = size) (hby : i.bytes = bytes) (hzs : z.cells.size = size) (hb8 : bytes ≤ 128)
    (v : Value) (n : Nat) (xs : List Value) (hs : a.eval s = v) (hown : w.ownsRow base e size v n xs)
    (xv : Value) (hx : a.eval x = xv) (m : Nat) (news : List Value) (hsrc : Src P size tx xv m news w)
    (h63 : n + m ≤ 1099511627776) (hbase : base ≤ w.heap.size)
    (h : ∀ v' w', w'.ownsRow base e size v' (n + m) (xs ++ news) → w.grownBy w' v.ownBlock → FreshOr w v v' → (v' = .slice none 0 0 ↔ v = .slice none 0 0 ∧ m = 0) → wpList P ops Q rest (a.put o.dst v') w') : wpList P ops Q (o :: rest) a w := by
  refine wpList_plain hgd fun K hK => ?_
  obtain ⟨v', w', hr, h2, h3, h4, h5⟩ := run_app (P := P) (w := w) base t tx o.type e i z size bytes ht hi hz hsize hby hzs v n xs hown xv m news hsrc h63 hb8 hbase
  unfold Oper.wp execOp
  simp only [ho, resolve, invoke, builtin, Sem.run_bind, Sem.run_pure, Result.andThen_ok, List.map_toArray, List.map_cons, List.map_nil, hs, hx, hr]
  exact hK _ _ (h v' w' h2 h3 h4 h5)
/-- THE SAME FOR A REGION THAT DRAWS ITS ORDER. -/
theorem step_app {ops : Array Oper} {o : Oper} {a : Act} {K : Act → World → Prop} {Q : Exit → Act → World → Prop} {X : Prop} (hgd : o.guard = none) (s x : Operand) (t tx : TypeId)
    (ho : o.op = .call { callee := .builtin .append, args := #[s, x], argTypes := #[t, tx] })
    (base : Nat) (e : TypeId) (i : TypeInfo) (z : Value) (size bytes : Nat) (ht : P.underlying t = some (.slice e)) (hi : P.info? e = some i) (hz : i.zero = some z)
    (hsize : i.size = size) (hby : i.bytes = bytes) (hzs : z.cells.size = size) (hb8 : bytes ≤ 128)
    (v : Value) (n : Nat) (xs : List Value) (hs : a.eval s = v) (hown : w.ownsRow base e size v n xs)
    (xv : Value) (hx : a.eval x = xv) (m : Nat) (news : List Value) (hsrc : Src P size tx xv m news w)
    (h63 : n + m ≤ 1099511627776) (hbase : base ≤ w.heap.size)
    (h : ∀ v' w', w'.ownsRow base e size v' (n + m) (xs ++ news) → w.grownBy w' v.ownBlock → FreshOr w v v' → (v' = .slice none 0 0 ↔ v = .slice none 0 0 ∧ m = 0) → K (a.put o.dst v') w') :
    if Region.wanted o (yielded ops a.tmps) = true then Oper.wp P o a w K Q else X := by
  have hw : Region.wanted o (yielded ops a.tmps) = true := by simp [Region.wanted, hgd]
  rw [if_pos hw]
  obtain ⟨v', w', hr, h2, h3, h4, h5⟩ := run_app (P := P) (w := w) base t tx o.type e i z size bytes ht hi hz hsize hby hzs v n xs hown xv m news hsrc h63 hb8 hbase
  unfold Oper.wp execOp
  simp only [ho, resolve, invoke, builtin, Sem.run_bind, Sem.run_pure, Result.andThen_ok, List.map_toArray, List.map_cons, List.map_nil, hs, hx, hr]
  exact h v' w' h2 h3 h4 h5
end
end Go.Proofs.YtiemlefmhleaeaaDoor
namespace Go.Proofs.YtiemlefmhleaeaaDoor
set_option linter.unusedVariables false
set_option maxRecDepth 100000
open Go.RowKit
theorem info_u8 : (Tryd.prog.info? 5).map (fun i => (i.zero, i.size, i.bytes)) = some (some (.int .u8 0), 1, 1) := by kernel_rfl
def bys (l : List UInt8) : List Value := l.map fun c => Value.int .u8 c.toNat
abbrev bstr (l : List UInt8) : Value := .string ⟨l.toArray⟩
def BRow (w : World) (base : Nat) (v : Value) (l : List UInt8) : Prop := w.ownsRow base 5 1 v l.length (bys l)
theorem bys_length (l : List UInt8) : (bys l).length = l.length := by simp [bys]
theorem bys_append (l m : List UInt8) : bys (l ++ m) = bys l ++ bys m := by simp [bys]
theorem byteCells_eq (s : ByteArray) : byteCells s = bys s.data.toList := rfl
theorem size_eq (s : ByteArray) : s.size = s.data.toList.length := by rw [Array.length_toList]; rfl
theorem BRow.lt {w : World} {base : Nat} {v : Value} {l : List UInt8} (h : BRow w base v l) : ∀ k, v.ownBlock = some k → base ≤ k ∧ k < w.heap.size := World.ownsRow.lt h
section
variable {w : World} {ops : Array Oper} {rest : List Oper} {o : Oper} {a : Act} {Q : Exit → Act → World → Prop}
/-- append(b, x..): any source -/
theorem app_bytes (hgd : o.guard = none) (s x : Operand) (tx : TypeId)
    (ho : o.op = .call { callee := .builtin .append, args := #[s, x], argTypes := #[47, tx] })
    (base : Nat) (v : Value) (l : List UInt8) (hs : a.eval s = v) (hown : BRow w base v l) (xv : Value) (hx : a.eval x = xv) (news : List UInt8) (hsrc : Src Tryd.prog 1 tx xv news.length (bys news) w)
    (h63 : l.length + news.length ≤ 1099511627776) (hbase : base ≤ w.heap.size)
    (h : ∀ v' w', BRow w' base v' (l ++ news) → w.grownBy w' v.ownBlock → FreshOr w v v' → wpList Tryd.prog ops Q rest (a.put o.dst v') w') : wpList Tryd.prog ops Q (o :: rest) a w := by
  obtain ⟨i0, hi, hz0, hz1, hz2⟩ := info_parts info_u8
  exact wpList_app hgd s x 47 tx ho base 5 i0 (.int .u8 0) 1 1 Tryd.underlying47 hi hz0 hz1 hz2 rfl (by decide) v l.length (bys l) hs hown xv hx news.length (bys news) hsrc h63 hbase
    (fun v' w' h1 h2 h3 _ => h v' w' (by unfold BRow; rw [List.length_append, bys_append]; exact h1) h2 h3)
end
theorem src_row {w : World} {base : Nat} {v : Value} {l : List UInt8} (h : BRow w base v l) : Src Tryd.prog 1 47 v l.length (bys l) w := by
  have h1 : ∀ u ∈ bys l, u.oneCell' = true := fun u hu => by obtain ⟨_, _, rfl⟩ := List.mem_map.1 hu; rfl
  rcases h.2 with ⟨rfl, hn⟩ | ⟨g, cap, cur, rfl, hbg, hg, hnc, hcm, hcs, htake⟩
  · have : l = [] := List.eq_nil_of_length_eq_zero hn
    subst this
    exact Src.ofNil w Tryd.underlying47 0
  · exact Src.ofSlice w Tryd.underlying47 _ _ _ _ (by rw [bys_length, Nat.mul_one]) (h.cells rfl) h1
/-- the source is one new cell: append(b, c) -/
theorem src_one (w : World) (c : UInt8) (b : Nat) (h : w.cell? ⟨b, 0, none⟩ = some (.int .u8 c.toNat)) : Src Tryd.prog 1 47 (.slice (some ⟨b, 0, none⟩) 1 1) [c].length (bys [c]) w :=
  Src.ofSlice w Tryd.underlying47 _ _ _ _ rfl (by intro j u hu; match j, hu with | 0, hu => (simp [bys] at hu; subst hu; exact h)) (by intro u hu; simp [bys] at hu; subst hu; rfl)
theorem cell_new_one (w : World) (x : Value) (t : TypeId) : (w.alloc (.cells #[x] t)).cell? ⟨w.heap.size, 0, none⟩ = some x := by
  rw [cell_of_row (w.alloc (.cells #[x] t)) w.heap.size 0 #[x] t (0, 0) (heap_alloc_new w _)]; rfl
theorem u8_back (x : Int) (h0 : 0 ≤ x) (h1 : x < 256) : ((UInt8.ofNat x.toNat).toNat : Int) = x := by simp; omega
theorem src_new (w : World) (x : Int) (h0 : 0 ≤ x) (h1 : x < 256) : Src Tryd.prog 1 47 (.slice (some ⟨w.heap.size, 0, none⟩) 1 1) [UInt8.ofNat x.toNat].length (bys [UInt8.ofNat x.toNat]) (w.alloc (.cells #[.int .u8 x] 5)) :=
  src_one _ _ _ (by rw [cell_new_one, u8_back x h0 h1])
theorem BRow.made {w : World} {base : Nat} (l : List UInt8) (hb : base ≤ w.heap.size) (hl : l.length ≤ 1099511627776) : BRow (w.alloc (.cells (bys l).toArray 5)) base (.slice (some ⟨w.heap.size, 0, none⟩) l.length l.length) l := by
  have := World.ownsRow_lit (w := w) (base := base) (e := 5) (size := 1) (bys l).toArray l.length hb (by simp only [maxLen]; omega) (by simp [bys_length])
  simpa [BRow] using this
theorem foldl_push (l : List UInt8) : ∀ s : ByteArray, (l.map fun c => (c.toNat : Int)).foldl (fun r n => r.push (UInt8.ofNat n.toNat)) s = ⟨s.data ++ l.toArray⟩ := by
  induction l with
  | nil => intro s; simp
  | cons c l ih => intro s; simp only [List.map_cons, List.foldl_cons]; rw [ih]; simp [ByteArray.push]
/-- string(b) -/
theorem run_str {w : World} {base : Nat} {v : Value} {l : List UInt8} (h : BRow w base v l) : (convert 47 9 v).run Tryd.prog w = .ok (bstr l) w := by
  rcases h.2 with ⟨rfl, hn⟩ | ⟨g, cap, cur, rfl, hbg, hg, hnc, hcm, hcs, htake⟩
  · have : l = [] := List.eq_nil_of_length_eq_zero hn
    subst this
    rw [run_convert_bytes_string w 47 9 5 none 0 0 Tryd.underlying47 Tryd.underlying5 Tryd.underlying9]
    rfl
  · rw [run_convert_bytes_string w 47 9 5 _ _ _ Tryd.underlying47 Tryd.underlying5 Tryd.underlying9]
    have hm : (l.map fun c => (c.toNat : Int)).map (Value.int .u8) = bys l := by simp [bys]
    rw [run_bytesToString w _ _ _ (l.map fun c => (c.toNat : Int)) (by
      have h1 := run_loadCells_list (P := Tryd.prog) w ⟨g, 0, none⟩ (bys l) (World.ownsRow.cells h rfl)
      rw [bys_length] at h1
      rw [hm]; exact h1)]
    rw [foldl_push]
    simp [bstr]
/-- string(b) of one new byte -/
theorem run_str1 (W : World) (b : Nat) (x : Int) (h : W.cell? ⟨b, 0, none⟩ = some (.int .u8 x)) :
    (convert 47 9 (.slice (some ⟨b, 0, none⟩) 1 1)).run Tryd.prog W = .ok (bstr [UInt8.ofNat x.toNat]) W := by
  rw [run_convert_bytes_string W 47 9 5 _ _ _ Tryd.underlying47 Tryd.underlying5 Tryd.underlying9]
  rw [run_bytesToString W _ 1 1 [x] (by
    have h1 := run_loadCells_list (P := Tryd.prog) (w := W) ⟨b, 0, none⟩ [.int .u8 x] (by intro j v hv; match j, hv with | 0, hv => (simp at hv; subst hv; exact h))
    exact h1)]
  rfl
theorem bcell {W w1 : World} {B : Nat} (hb : Below B W w1) : (∀ b o, b < B → w1.cell? ⟨b, o, none⟩ = W.cell? ⟨b, o, none⟩) ∧ (∀ b o, b < B → w1.frozen? ⟨b, o, none⟩ = W.frozen? ⟨b, o, none⟩) :=
  ⟨fun b o h => hb.cell (p := ⟨b, o, none⟩) h, fun b o h => hb.frozen (p := ⟨b, o, none⟩) h⟩
end Go.Proofs.YtiemlefmhleaeaaDoor
namespace Go.Proofs.YtiemlefmhleaeaaDoor
set_option linter.unusedVariables false
set_option maxRecDepth 100000
open Go.RowKit
def big : Nat → Nat → List UInt8
  | 0, _ => []
  | i + 1, n => UInt8.ofNat (n / 256 ^ i) :: big i n
theorem big_length (i n : Nat) : (big i n).length = i := by induction i with | zero => rfl | succ i ih => simp [big, ih]
theorem toNat_ofNat_mod (n : Nat) : ((UInt8.ofNat n).toNat : Int) = (n : Int) % 256 := by simp
theorem div_pow (n i : Nat) : n / 256 ^ i / 256 = n / 256 ^ (i + 1) := by rw [Nat.div_div_eq_div_mul, Nat.pow_succ]
set_option maxHeartbeats 400000 in
theorem l05Big_any (n m : Nat) (w : World) (hn : n < 18446744073709551616) (hm : m ≤ 100) :
    Calls Tryd.prog 108 #[.int .u64 n, .int .i64 m] w fun e w' => e = .returned (bstr (big m n)) ∧ Below w.heap.size w w' := by
  go_enter Tryd.func108, Tryd.ntmps108
  go_wp2
  go_loopw [0, 5, 6] (fun x v i wr => ∃ k : Nat, k ≤ m ∧ i = .int .i64 k ∧ x = .int .u64 ((n / 256 ^ k : Nat) : Int) ∧ BRow wr w.heap.size v (big k n) ∧ Below w.heap.size w wr) (fun _ _ i _ => m - (intOf i).toNat)
  case atStart => exact ⟨0, Nat.zero_le _, rfl, by simp, BRow.made [] (Nat.le_refl _) (by simp), (Below.refl _ _).alloc (Nat.le_refl _) _⟩
  case round =>
    obtain ⟨k, hk, rfl, rfl, hrow, hbl⟩ := hrel
    have hq : n / 256 ^ k < 18446744073709551616 := Nat.lt_of_le_of_lt (Nat.div_le_self _ _) hn
    have H := Lib.hid (div_pow n k)
    have hsz := hbl.size
    have hlen := big_length k n
    generalize hx : n / 256 ^ k = q at *
    have Hx := Lib.hid hx; clear hx
    have Hlen := Lib.hid hlen; clear hlen
    by_cases hlt : k < m
    · have r1 : BRow (wr.alloc (.cells #[.int .u8 ((q : Int) % 256)] 5)) w.heap.size (.slice (some ⟨wr.heap.size, 0, none⟩) 1 1) [UInt8.ofNat q] := by
        have := BRow.made (w := wr) [UInt8.ofNat q] hsz (by simp)
        simpa [bys] using this
      have r2 : Src Tryd.prog 1 47 u5 (big k n).length (bys (big k n)) (wr.alloc (.cells #[.int .u8 ((q : Int) % 256)] 5)) := src_row (World.ownsRow.alloc hrow _)
      have R1 := Lib.hid r1; clear r1
      have R2 := Lib.hid r2; clear r2
      have RW := Lib.hid hrow; clear hrow
      go_wp2_with (at_builtin; refine app_bytes rfl _ _ _ rfl w.heap.size _ [UInt8.ofNat q] rfl R1.out _ rfl (big k n) R2.out (by rw [Hlen.out]; simp; omega) (by simp; omega) ?_; intro v' w' hrow' hg' _)
      go_roundw
      case rel => exact ⟨k + 1, by omega, by go_num, by rw [← H.out]; simp, by rw [big, Hx.out]; exact hrow', (hbl.alloc hsz _).grown hg' (by simp; omega) (fun k' hk' => (BRow.lt R1.out k' hk').1)⟩
      case measure => simp [intOf]; omega
    · have hkm : k = m := by omega
      have r := run_str hrow
      subst hkm
      go_wp2
      go_ret
      exact ⟨rfl, hbl⟩
def TxtRet (w : World) (l : List UInt8) (e : Ending) (w' : World) : Prop := e = .returned (bstr l) ∧ Below w.heap.size w w'
theorem l05Big_int (x m : Int) (w : World) (h0 : 0 ≤ x) (hx : x < 18446744073709551616) (hm0 : 0 ≤ m) (hm : m ≤ 100) :
    Calls Tryd.prog 108 #[.int .u64 x, .int .i64 m] w (TxtRet w (big m.toNat x.toNat)) := by
  obtain ⟨n, rfl⟩ := Int.eq_ofNat_of_zero_le h0
  obtain ⟨k, rfl⟩ := Int.eq_ofNat_of_zero_le hm0
  exact l05Big_any n k w (by omega) (by omega)
theorem ret_str {s : ByteArray} {l : List UInt8} (h : s = ⟨l.toArray⟩) : Ending.returned (.string s) = .returned (bstr l) := by rw [h]
theorem bstr_append (l m : List UInt8) : (⟨l.toArray⟩ : ByteArray) ++ ⟨m.toArray⟩ = ⟨(l ++ m).toArray⟩ := by
  simp [ByteArray.ext_iff]
end Go.Proofs.YtiemlefmhleaeaaDoor
