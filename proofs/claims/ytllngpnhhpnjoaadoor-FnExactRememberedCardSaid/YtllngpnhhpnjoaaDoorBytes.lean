/- Rows of bytes that a call itself made: appends, and what string(b) gives. -/
import Derived.Test.YtllngpnhhpnjoaaDoorRows
import Derived.Test.YtllngpnhhpnjoaaDoorOwn
import Derived.ProofKit
namespace Go.Proofs.YtllngpnhhpnjoaaDoor
set_option linter.unusedVariables false
set_option maxRecDepth 100000
open Go.RowKit
theorem info_u8 : (Tryd.prog.info? 5).map (fun i => (i.zero, i.size, i.bytes)) = some (some (.int .u8 0), 1, 1) := by kernel_rfl
def bys (l : List UInt8) : List Value := l.map fun c => Value.int .u8 c.toNat
abbrev bstr (l : List UInt8) : Value := .string ⟨l.toArray⟩
def BRow (w : World) (base : Nat) (v : Value) (l : List UInt8) : Prop := w.ownsRow base 5 1 v l.length (bys l)
theorem bys_length (l : List UInt8) : (bys l).length = l.length := by simp [bys]
theorem bys_append (l m : List UInt8) : bys (l ++ m) = bys l ++ bys m := by simp [bys]
theorem byteCells_eq (s : ByteArray) : byteCells s = bys s.data.toList := rfl
theorem size_eq (s : ByteArray) : s.size = s.data.toList.length := by rw [Array.length_toList]; rfl
theorem BRow.lt {w : World} {base : Nat} {v : Value} {l : List UInt8} (h : BRow w base v l) : ∀ k, v.ownBlock = some k → base ≤ k ∧ k < w.heap.size := World.ownsRow.lt h
section
variable {w : World} {ops : Array Oper} {rest : List Oper} {o : Oper} {a : Act} {Q : Exit → Act → World → Prop}
/-- append(b, x..): any source -/
theorem app_bytes (hgd : o.guard = none) (s x : Operand) (tx : TypeId)
    (ho : o.op = .call { callee := .builtin .append, args := #[s, x], argTypes := #[45, tx] })
    (base : Nat) (v : Value) (l : List UInt8) (hs : a.eval s = v) (hown : BRow w base v l) (xv : Value) (hx : a.eval x = xv) (news : List UInt8) (hsrc : Src Tryd.prog 1 tx xv news.length (bys news) w)
    (h63 : l.length + news.length ≤ 1099511627776) (hbase : base ≤ w.heap.size)
    (h : ∀ v' w', BRow w' base v' (l ++ news) → w.grownBy w' v.ownBlock → FreshOr w v v' → wpList Tryd.prog ops Q rest (a.put o.dst v') w') : wpList Tryd.prog ops Q (o :: rest) a w := by
  obtain ⟨i0, hi, hz0, hz1, hz2⟩ := info_parts info_u8
  exact wpList_app hgd s x 45 tx ho base 5 i0 (.int .u8 0) 1 1 Tryd.underlying45 hi hz0 hz1 hz2 rfl (by decide) v l.length (bys l) hs hown xv hx news.length (bys news) hsrc h63 hbase
    (fun v' w' h1 h2 h3 _ => h v' w' (by unfold BRow; rw [List.length_append, bys_append]; exact h1) h2 h3)
end
theorem src_row {w : World} {base : Nat} {v : Value} {l : List UInt8} (h : BRow w base v l) : Src Tryd.prog 1 45 v l.length (bys l) w := by
  have h1 : ∀ u ∈ bys l, u.oneCell' = true := fun u hu => by obtain ⟨_, _, rfl⟩ := List.mem_map.1 hu; rfl
  rcases h.2 with ⟨rfl, hn⟩ | ⟨g, cap, cur, rfl, hbg, hg, hnc, hcm, hcs, htake⟩
  · have : l = [] := List.eq_nil_of_length_eq_zero hn
    subst this
    exact Src.ofNil w Tryd.underlying45 0
  · exact Src.ofSlice w Tryd.underlying45 _ _ _ _ (by rw [bys_length, Nat.mul_one]) (h.cells rfl) h1
/-- the source is one new cell: append(b, c) -/
theorem src_one (w : World) (c : UInt8) (b : Nat) (h : w.cell? ⟨b, 0, none⟩ = some (.int .u8 c.toNat)) : Src Tryd.prog 1 45 (.slice (some ⟨b, 0, none⟩) 1 1) [c].length (bys [c]) w :=
  Src.ofSlice w Tryd.underlying45 _ _ _ _ rfl (by intro j u hu; match j, hu with | 0, hu => (simp [bys] at hu; subst hu; exact h)) (by intro u hu; simp [bys] at hu; subst hu; rfl)
theorem cell_new_one (w : World) (x : Value) (t : TypeId) : (w.alloc (.cells #[x] t)).cell? ⟨w.heap.size, 0, none⟩ = some x := by
  rw [cell_of_row (w.alloc (.cells #[x] t)) w.heap.size 0 #[x] t (0, 0) (heap_alloc_new w _)]; rfl
theorem u8_back (x : Int) (h0 : 0 ≤ x) (h1 : x < 256) : ((UInt8.ofNat x.toNat).toNat : Int) = x := by simp; omega
theorem src_new (w : World) (x : Int) (h0 : 0 ≤ x) (h1 : x < 256) : Src Tryd.prog 1 45 (.slice (some ⟨w.heap.size, 0, none⟩) 1 1) [UInt8.ofNat x.toNat].length (bys [UInt8.ofNat x.toNat]) (w.alloc (.cells #[.int .u8 x] 5)) :=
  src_one _ _ _ (by rw [cell_new_one, u8_back x h0 h1])
theorem BRow.made {w : World} {base : Nat} (l : List UInt8) (hb : base ≤ w.heap.size) (hl : l.length ≤ 1099511627776) : BRow (w.alloc (.cells (bys l).toArray 5)) base (.slice (some ⟨w.heap.size, 0, none⟩) l.length l.length) l := by
  have := World.ownsRow_lit (w := w) (base := base) (e := 5) (size := 1) (bys l).toArray l.length hb (by simp only [maxLen]; omega) (by simp [bys_length])
  simpa [BRow] using this
theorem foldl_push (l : List UInt8) : ∀ s : ByteArray, (l.map fun c => (c.toNat : Int)).foldl (fun r n => r.push (UInt8.ofNat n.toNat)) s = ⟨s.data ++ l.toArray⟩ := by
  induction l with
  | nil => intro s; simp
  | cons c l ih => intro s; simp only [List.map_cons, List.foldl_cons]; rw [ih]; simp [ByteArray.push]
/-- string(b) -/
theorem run_str {w : World} {base : Nat} {v : Value} {l : List UInt8} (h : BRow w base v l) : (convert 45 9 v).run Tryd.prog w = .ok (bstr l) w := by
  rcases h.2 with ⟨rfl, hn⟩ | ⟨g, cap, cur, rfl, hbg, hg, hnc, hcm, hcs, htake⟩
  · have : l = [] := List.eq_nil_of_length_eq_zero hn
    subst this
    rw [run_convert_bytes_string w 45 9 5 none 0 0 Tryd.underlying45 Tryd.underlying5 Tryd.underlying9]
    rfl
  · rw [run_convert_bytes_string w 45 9 5 _ _ _ Tryd.underlying45 Tryd.underlying5 Tryd.underlying9]
    have hm : (l.map fun c => (c.toNat : Int)).map (Value.int .u8) = bys l := by simp [bys]
    rw [run_bytesToString w _ _ _ (l.map fun c => (c.toNat : Int)) (by
      have h1 := run_loadCells_list (P := Tryd.prog) w ⟨g, 0, none⟩ (bys l) (World.ownsRow.cells h rfl)
      rw [bys_length] at h1
      rw [hm]; exact h1)]
    rw [foldl_push]
    simp [bstr]
/-- string(b) of one new byte -/
theorem run_str1 (W : World) (b : Nat) (x : Int) (h : W.cell? ⟨b, 0, none⟩ = some (.int .u8 x)) :
    (convert 45 9 (.slice (some ⟨b, 0, none⟩) 1 1)).run Tryd.prog W = .ok (bstr [UInt8.ofNat x.toNat]) W := by
  rw [run_convert_bytes_string W 45 9 5 _ _ _ Tryd.underlying45 Tryd.underlying5 Tryd.underlying9]
  rw [run_bytesToString W _ 1 1 [x] (by
    have h1 := run_loadCells_list (P := Tryd.prog) (w := W) ⟨b, 0, none⟩ [.int .u8 x] (by intro j v hv; match j, hv with | 0, hv => (simp at hv; subst hv; exact h))
    exact h1)]
  rfl
theorem bcell {W w1 : World} {B : Nat} (hb : Below B W w1) : (∀ b o, b < B → w1.cell? ⟨b, o, none⟩ = W.cell? ⟨b, o, none⟩) ∧ (∀ b o, b < B → w1.frozen? ⟨b, o, none⟩ = W.frozen? ⟨b, o, none⟩) :=
  ⟨fun b o h => hb.cell (p := ⟨b, o, none⟩) h, fun b o h => hb.frozen (p := ⟨b, o, none⟩) h⟩
end Go.Proofs.YtllngpnhhpnjoaaDoor
