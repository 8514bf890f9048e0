/- What is read, plainly: a value, the place behind it, how many may still begin; a value under way beside a block. CBOR read, plainly: the program's reader and the reference's; they agree where the value is right. No program in sight. -/
import Derived.Test.YtiemlefmhleaeaaDoorCborS
import Derived.Test.YtiemlefmhleaeaaDoorGetWide
import Derived.Test.YtiemlefmhleaeaaDoorAnyHead
import Derived.Deep.RegionWith
import Derived.Test.YtiemlefmhleaeaaDoorCborI
import Derived.Test.YtiemlefmhleaeaaDoorSet5
import Derived.Deep.QuietTactic
import Derived.BigQuiet
import Derived.Test.YtiemlefmhleaeaaDoorGetHead
namespace Go.Proofs.YtiemlefmhleaeaaDoor
set_option linter.unusedVariables false
set_option maxRecDepth 100000
open Go.RowKit
/-- what is read: a value, the place behind it, how many may still begin -/
abbrev MG := Option (V × Nat × Nat)
def mgStr (s : ByteArray) (k : Int) (i many l : Nat) : MG := if i + many ≤ s.size then some (.mk k 0 0 (s.extract i (i + many)) [], i + many, l) else none
def mgKids (g : Nat → Nat → MG) : Nat → Nat → Nat → Option (List V × Nat × Nat)
  | 0, i, l => some ([], i, l)
  | k + 1, i, l => (mgKids g k i l).bind fun p => (g p.2.1 p.2.2).map fun q => (p.1 ++ [q.1], q.2)
def mgNode (k n : Int) (o : Option (List V × Nat × Nat)) : MG := o.map fun p => (.mk k n 0 ⟨#[]⟩ p.1, p.2)
def mgLeaf (k n e : Int) (i l : Nat) : MG := some (.mk k n e ⟨#[]⟩ [], i, l)
/-- what is read is short: each value has a byte of its own, and takes one of those that may begin -/
def MGood (s : ByteArray) (i l : Nat) (o : MG) : Prop := ∀ v j m, o = some (v, j, m) → v.sz + 1 + i ≤ j ∧ j ≤ s.size ∧ m < l ∧ v.nodes + m = l ∧ v.wf
def KGood (s : ByteArray) (i l k : Nat) (o : Option (List V × Nat × Nat)) : Prop := ∀ vs j m, o = some (vs, j, m) → szs vs + i ≤ j ∧ j ≤ s.size ∧ nodess vs + m = l ∧ vs.length = k
theorem szs_append' : ∀ a b : List V, szs (a ++ b) = szs a + szs b
  | [], b => by simp [szs]
  | t :: a, b => by rw [List.cons_append, szs, szs, szs_append' a b]; omega
theorem mgKids_good {s : ByteArray} {g : Nat → Nat → MG} (hg : ∀ i l, MGood s i l (g i l)) : ∀ k i l, i ≤ s.size → KGood s i l k (mgKids g k i l)
  | 0, i, l, hi => by
    intro vs j m h
    simp only [mgKids, Option.some.injEq, Prod.mk.injEq] at h
    obtain ⟨rfl, rfl, rfl⟩ := h
    simp [szs, nodess, hi]
  | k + 1, i, l, hi => by
    intro vs j m h
    rw [mgKids] at h
    cases hp : mgKids g k i l with
    | none => rw [hp] at h; simp at h
    | some p =>
      obtain ⟨ps, pi, pl⟩ := p
      rw [hp] at h
      simp only [Option.bind_some, Option.map_eq_some_iff] at h
      obtain ⟨⟨v, j', m'⟩, h1, h2⟩ := h
      simp only [Prod.mk.injEq] at h2
      obtain ⟨rfl, rfl, rfl⟩ := h2
      have a := mgKids_good hg k i l hi ps pi pl hp
      have b := hg pi pl v j' m' h1
      refine ⟨?_, b.2.1, ?_, ?_⟩
      · rw [szs_append', szs, szs]; omega
      · rw [nodess_append, nodess, nodess]; omega
      · rw [List.length_append, a.2.2.2]; rfl
theorem mgLeaf_good {s : ByteArray} {k n e : Int} {i j l : Nat} (h : i + 1 ≤ j) (hj : j ≤ s.size) (hk : In64 k) (hn : In64 n) (he : In64 e) : MGood s i (l + 1) (mgLeaf k n e j l) := by
  intro v j' m h1
  simp only [mgLeaf, Option.some.injEq, Prod.mk.injEq] at h1
  obtain ⟨rfl, rfl, rfl⟩ := h1
  refine ⟨?_, hj, by omega, ?_, hk, hn, he, by show ByteArray.size ⟨#[]⟩ ≤ _; simp [ByteArray.size]⟩
  · rw [V.sz, szs]; show ByteArray.size ⟨#[]⟩ + 0 + 1 + i ≤ _; simp [ByteArray.size]; omega
  · rw [V.nodes_eq]; simp [V.kids, nodess]; omega
theorem mgStr_good {s : ByteArray} {k : Int} {i0 i many l : Nat} (hs : s.size ≤ 1048576) (h : i0 + 1 ≤ i) (hk : In64 k) : MGood s i0 (l + 1) (mgStr s k i many l) := by
  intro v j' m h1
  unfold mgStr at h1
  split at h1
  · rename_i h2
    simp only [Option.some.injEq, Prod.mk.injEq] at h1
    obtain ⟨rfl, rfl, rfl⟩ := h1
    have hz : (s.extract i (i + many)).size = many := by rw [ByteArray.size_extract]; omega
    refine ⟨?_, h2, by omega, ?_, hk, ⟨by show (-9223372036854775808 : Int) ≤ 0; omega, by show (0 : Int) ≤ _; omega⟩, ⟨by show (-9223372036854775808 : Int) ≤ 0; omega, by show (0 : Int) ≤ _; omega⟩, by show (s.extract i (i + many)).size ≤ _; omega⟩
    · rw [V.sz, szs, hz]; omega
    · rw [V.nodes_eq]; simp [V.kids, nodess]; omega
  · cases h1
theorem mgNode_good {s : ByteArray} {k n : Int} {i0 i c l : Nat} {o : Option (List V × Nat × Nat)} (h : i0 + 1 ≤ i) (hk : In64 k) (hn : In64 n) (ho : KGood s i l c o) : MGood s i0 (l + 1) (mgNode k n o) := by
  intro v j' m h1
  simp only [mgNode, Option.map_eq_some_iff] at h1
  obtain ⟨⟨vs, j, m'⟩, h2, h3⟩ := h1
  simp only [Prod.mk.injEq] at h3
  obtain ⟨rfl, rfl, rfl⟩ := h3
  have a := ho vs _ _ h2
  refine ⟨?_, a.2.1, by omega, ?_, hk, hn, ⟨by show (-9223372036854775808 : Int) ≤ 0; omega, by show (0 : Int) ≤ _; omega⟩, by show ByteArray.size ⟨#[]⟩ ≤ _; simp [ByteArray.size]⟩
  · rw [V.sz]; show ByteArray.size ⟨#[]⟩ + szs vs + 1 + i0 ≤ _; simp [ByteArray.size]; omega
  · rw [V.nodes_eq]; show 1 + nodess vs + m' = l + 1; omega
theorem mgood_none (s : ByteArray) (i l : Nat) : MGood s i l none := fun _ _ _ h => by cases h
theorem mg_ite {s : ByteArray} {i l : Nat} {c : Prop} [Decidable c] {a b : MG} (ha : c → MGood s i l a) (hb : ¬ c → MGood s i l b) : MGood s i l (if c then a else b) := by
  by_cases h : c
  · rw [if_pos h]; exact ha h
  · rw [if_neg h]; exact hb h
theorem mgKids_some {g : Nat → Nat → MG} {k i l : Nat} {p : List V × Nat × Nat} (h : mgKids g k i l = some p) {q : V × Nat × Nat} (hq : g p.2.1 p.2.2 = some q) : mgKids g (k + 1) i l = some (p.1 ++ [q.1], q.2) := by
  rw [mgKids, h, Option.bind_some, hq]; rfl
theorem mgKids_stop {g : Nat → Nat → MG} {k i l : Nat} {p : List V × Nat × Nat} (h : mgKids g k i l = some p) (hq : g p.2.1 p.2.2 = none) : mgKids g (k + 1) i l = none := by
  rw [mgKids, h, Option.bind_some, hq]; rfl
theorem mgKids_stuck {g : Nat → Nat → MG} {k i l : Nat} (h : mgKids g k i l = none) : ∀ d, mgKids g (k + d) i l = none
  | 0 => h
  | d + 1 => by rw [← Nat.add_assoc, mgKids, mgKids_stuck h d]; rfl
theorem mgKids_none {g : Nat → Nat → MG} {k n i l : Nat} (h : mgKids g k i l = none) (hk : k ≤ n) : mgKids g n i l = none := by
  have := mgKids_stuck h (n - k); rwa [show k + (n - k) = n by omega] at this
theorem nodess_ge : ∀ ts : List V, ts.length ≤ nodess ts
  | [] => by simp
  | t :: ts => by
    have := nodess_ge ts
    rw [nodess, V.nodes_eq, List.length_cons]; omega
theorem in0 : In64 0 := ⟨by show (-9223372036854775808 : Int) ≤ 0; omega, by show (0 : Int) ≤ _; omega⟩
theorem in3 : In64 3 := ⟨by show (-9223372036854775808 : Int) ≤ 3; omega, by show (3 : Int) ≤ _; omega⟩
theorem k64 (k : Int) (h1 : 0 ≤ k) (h2 : k ≤ 4294967296) : In64 k := by unfold In64; omega
/-- a value under way beside a block r: its box, its kids so far -/
structure RAcc (r : Nat) (w W : World) (b : Nat) (k n e : Int) (s : ByteArray) (us : List V) (o : Value) (G : Nat → Prop) : Prop where
  box : Box W b k n e s o 28
  rows : VRows W (b + 1) 28 G o us
  touch : Touch (fun x => x = r ∨ x = b) (fun x => x = r ∨ x = b) w W
  hwb : w.heap.size = b + 1
  hr : r < b
theorem RAcc.stay {r b : Nat} {w W W' : World} {k n e : Int} {s : ByteArray} {us : List V} {o : Value} {G : Nat → Prop} (h : RAcc r w W b k n e s us o G) (hb : Below W.heap.size W W') : RAcc r w W' b k n e s us o G :=
  ⟨h.box.stay hb, h.rows.keep hb, h.touch.trans (Touch.of_below hb), h.hwb, h.hr⟩
theorem RAcc.over {r b : Nat} {w W W' : World} {k n e : Int} {s : ByteArray} {us : List V} {o : Value} {G : Nat → Prop} (h : RAcc r w W b k n e s us o G) (ht : Touch (fun x => x = r) (fun x => x = r) W W') : RAcc r w W' b k n e s us o G := by
  have hr := h.hr
  refine ⟨(ht.block b h.box.lt (by omega)).trans h.box, h.rows.move ht.size (fun x hx => ht.block x ?_ ?_), h.touch.trans (ht.mono (fun x hx => .inl hx) (fun x hx => .inl (.inl hx))), h.hwb, h.hr⟩
  · rcases hx with hx | hx
    · exact (h.rows.inG x hx).2
    · exact (h.rows.lt x hx).2
  · rcases hx with hx | hx
    · have := (h.rows.inG x hx).1; omega
    · have := (h.rows.lt x hx).1; omega
theorem RAcc.same {r b : Nat} {w W W1 W2 : World} {k n e : Int} {s : ByteArray} {us : List V} {o : Value} {G : Nat → Prop} (h : RAcc r w W b k n e s us o G) (hW : Below W.heap.size W W1) (hg : W1.grownBy W2 o.ownBlock) (v2 : Value) :
    ∀ x, x < w.heap.size → x ≠ b → (W2.setCell ⟨b, 4, none⟩ v2).heap[x]? = W.heap[x]? := fun x hx hb => by
  have h1 := h.touch.size
  have h2 := h.hwb
  have h3 := hW.size
  rw [heap_setCell_other _ _ _ _ (show x ≠ b from hb), hg.block x (by omega) (fun e => by have := (h.rows.lt x e.symm).1; omega)]
  exact hW.block x (by omega)
theorem RAcc.put {r b : Nat} {w W W1 W2 : World} {k n e : Int} {s : ByteArray} {us us2 : List V} {o v2 : Value} {G G2 : Nat → Prop} (h : RAcc r w W b k n e s us o G) (hW : Below W.heap.size W W1) (hg : W1.grownBy W2 o.ownBlock) (hr2 : VRows W2 (b + 1) 28 G2 v2 us2) :
    RAcc r w (W2.setCell ⟨b, 4, none⟩ v2) b k n e s us2 v2 G2 := by
  have hl := h.box.lt
  have z1 := hW.size
  have z2 := hg.size
  have hz := h.touch.size
  have B2 : Box W2 b k n e s o 28 := by
    have hn : o.ownBlock ≠ some b := fun e => by have := (h.rows.lt b e).1; omega
    exact (hg.block b (by omega) (fun e => hn e.symm)).trans (h.box.stay hW)
  refine ⟨B2.set4, hr2.move (by simp) (fun x hx => heap_setCell_other _ _ _ _ (fun e => ?_)), ?_, h.hwb, h.hr⟩
  · have e' : x = b := e
    rcases hx with hx | hx
    · have := (hr2.inG x hx).1; omega
    · have := (hr2.lt x hx).1; omega
  · exact ⟨hg.os.trans (hW.os.trans h.touch.os), hg.tape.trans (hW.tape.trans h.touch.tape), hg.output.trans (hW.output.trans h.touch.output), by simp; omega, fun x hx hn => (h.same hW hg v2 x hx (fun e => hn (.inr e))).trans (h.touch.block x hx hn), h.touch.new⟩
theorem RAcc.nil {r b : Nat} {w : World} {k n e : Int} {s : ByteArray} (hB : Box w b k n e s (.slice none 0 0) 28) (hwb : w.heap.size = b + 1) (hr : r < b) : RAcc r w w b k n e s [] (.slice none 0 0) (fun _ => False) :=
  ⟨hB, VRows.nil _ _ _, Touch.refl _ _, hwb, hr⟩
theorem Touch.cellD {d i : Nat} {w W : World} (h : Touch (fun x => x = d) (fun x => x = d) w W) (v : Value) : Touch (fun x => x = d) (fun x => x = d) w (W.setCell ⟨d, i, none⟩ v) :=
  ⟨h.os, h.tape, h.output, by simpa using h.size, fun x hx hn => (heap_setCell_other _ _ _ _ hn).trans (h.block x hx hn), h.new⟩
theorem touch_drewN {d : Nat} {w W : World} (n : Nat) (h : Touch (fun x => x = d) (fun x => x = d) w W) : Touch (fun x => x = d) (fun x => x = d) w (W.drewN n) := h.trans (Touch.of_below (below_drewN (Below.refl _ _) n))
theorem touch_grown {d B : Nat} {w W w2 : World} {o : Value} (h : Touch (fun x => x = d) (fun x => x = d) w W) (hg : W.grownBy w2 o.ownBlock) (hB : w.heap.size ≤ B) (ho : ∀ k, o.ownBlock = some k → B ≤ k) : Touch (fun x => x = d) (fun x => x = d) w w2 :=
  ⟨hg.os.trans h.os, hg.tape.trans h.tape, hg.output.trans h.output, Nat.le_trans h.size hg.size,
    fun x hx hn => (hg.block x (Nat.lt_of_lt_of_le hx h.size) (fun e => by have := ho x e.symm; omega)).trans (h.block x hx hn), fun x hx => .inl hx⟩
theorem rows_over {d B : Nat} {w w' : World} {E : TypeId} {G : Nat → Prop} {v : Value} {us : List V} (h : VRows w B E G v us) (ht : Touch (fun x => x = d) (fun x => x = d) w w') (hd : d < B) : VRows w' B E G v us :=
  h.move ht.size (fun x hx => ht.block x (hx.elim (fun h1 => (h.inG x h1).2) (fun h1 => (h.lt x h1).2)) (fun e => by
    have h2 : B ≤ x := hx.elim (fun h1 => (h.inG x h1).1) (fun h1 => (h.lt x h1).1)
    omega))
end Go.Proofs.YtiemlefmhleaeaaDoor
namespace Go.Proofs.YtiemlefmhleaeaaDoor
set_option linter.unusedVariables false
set_option maxRecDepth 100000
open Go.RowKit
/-- a head at a place: its major type, its number, the place behind it -/
def hdR (lo : Bool) (s : ByteArray) (i : Nat) : Option (Nat × Nat × Nat) :=
  if (if lo then anyH s i else getH s i).2.2 < 0 then none
  else some ((if lo then anyH s i else getH s i).1.toNat, (if lo then anyH s i else getH s i).2.1.toNat, (if lo then anyH s i else getH s i).2.2.toNat)
/-- the chunks of bytes or of a text, up to the byte 255 -/
def cgChunks (s : ByteArray) (a : Nat) : Nat → Nat → Option (ByteArray × Nat)
  | 0, _ => none
  | f + 1, i => if h : i < s.size then (if s[i].toNat = 255 then some (⟨#[]⟩, i + 1) else
      match hdR true s i with
      | none => none
      | some (m, n, x) => if m = a ∧ x + n ≤ s.size ∧ (a = 3 → txt (s.extract x (x + n)) = true) then (cgChunks s a f (x + n)).map fun p => (s.extract x (x + n) ++ p.1, p.2) else none) else none
/-- values up to the byte 255 -/
def cgUpto (s : ByteArray) (g : Nat → Nat → MG) : Nat → Nat → Nat → Option (List V × Nat × Nat)
  | 0, _, _ => none
  | f + 1, i, l => if h : i < s.size then (if s[i].toNat = 255 then some ([], i + 1, l) else
      (g i l).bind fun q => (cgUpto s g f q.2.1 q.2.2).map fun p => (q.1 :: p.1, p.2)) else none
def evenK (sp : Bool) (o : Option (List V × Nat × Nat)) : Option (List V × Nat × Nat) := o.bind fun p => if sp = true ∧ p.1.length % 2 = 1 then none else some p
/-- what is of indefinite length -/
def cgOpen (sp : Bool) (s : ByteArray) (g : Nat → Nat → MG) (a i l : Nat) : MG :=
  if a = 2 then (cgChunks s 2 (s.size + 1) i).map fun p => (.mk 6 0 0 p.1 [], p.2, l)
  else if a = 3 then (cgChunks s 3 (s.size + 1) i).map fun p => (.mk 5 0 0 p.1 [], p.2, l)
  else if a = 4 then mgNode 7 0 (cgUpto s g (s.size + 1) i l)
  else mgNode 8 0 (evenK sp (cgUpto s g (s.size + 1) i l))
/-- the decimal of a list -/
def decOf : V × Nat × Nat → MG
  | (.mk k _ _ _ [x, y], j, m) => if k = 7 ∧ x.k = 3 ∧ y.k = 3 then mgLeaf 4 y.n x.n j m else none
  | _ => none
def cgTag (n : Nat) (q : V × Nat × Nat) : MG := if n = 4 then decOf q else some (.mk 9 (min n 4294967296 : Nat) 0 ⟨#[]⟩ [q.1], q.2)
/-- what a head begins; sp: within the reference's limits -/
def cgHead (sp lo : Bool) (s : ByteArray) (g : Nat → Nat → MG) (a n x l : Nat) : MG :=
  if a ≤ 1 then (if 9223372036854775807 < n then none else mgLeaf 3 (if a = 1 then -1 - (n : Int) else n) 0 x l)
  else if a = 2 then mgStr s 6 x n l
  else if a = 3 then mgStr s 5 x n l
  else if a = 4 then (if sp = true ∧ 300 < n then none else mgNode 7 0 (mgKids g n x l))
  else if a = 5 then (if sp = true ∧ 300 < n then none else mgNode 8 0 (mgKids g (2 * min n 4294967296) x l))
  else if a = 6 then (if sp = true ∧ 1000000 < n then none else (g x l).bind (cgTag n))
  else if n = 20 then mgLeaf 1 0 0 x l else if n = 21 then mgLeaf 2 0 0 x l
  else if n = 22 ∨ (n = 23 ∧ lo = true) then mgLeaf 0 0 0 x l else none
def isOpen (lo : Bool) (b : Nat) : Prop := lo = true ∧ b % 32 = 31 ∧ 2 ≤ b / 32 ∧ b / 32 ≤ 5
instance (lo : Bool) (b : Nat) : Decidable (isOpen lo b) := by unfold isOpen; exact inferInstance
def cgVal (sp lo : Bool) (s : ByteArray) (g : Nat → Nat → MG) (b i l : Nat) : MG :=
  if isOpen lo b then cgOpen sp s g (b / 32) (i + 1) l
  else match hdR lo s i with
    | none => none
    | some (a, n, x) => cgHead sp lo s g a n x l
def cg (sp lo : Bool) (s : ByteArray) : Nat → Nat → Nat → MG
  | 0, _, _ => none
  | f + 1, i, l => if h : i < s.size then (if l = 0 then none else cgVal sp lo s (cg sp lo s f) s[i].toNat i (l - 1)) else none
/-- a number has no kids -/
def VOk (t : V) : Prop := t.wf ∧ (t.k = 3 → t.kids = [])
/-- what is read is short -/
def CGood (s : ByteArray) (i l : Nat) (o : MG) : Prop := ∀ v j m, o = some (v, j, m) → v.sz + 1 + i ≤ j ∧ j ≤ s.size ∧ m < l ∧ v.nodes + m ≤ l ∧ VOk v ∧ ∀ t ∈ v.kids, VOk t
def CKGood (s : ByteArray) (i l : Nat) (o : Option (List V × Nat × Nat)) : Prop := ∀ vs j m, o = some (vs, j, m) → szs vs + i ≤ j ∧ j ≤ s.size ∧ nodess vs + m ≤ l ∧ ∀ t ∈ vs, VOk t
theorem mgKids_cgood {s : ByteArray} {g : Nat → Nat → MG} (hg : ∀ i l, CGood s i l (g i l)) : ∀ k i l, i ≤ s.size → CKGood s i l (mgKids g k i l) ∧ (∀ vs j m, mgKids g k i l = some (vs, j, m) → vs.length = k)
  | 0, i, l, hi => by
    refine ⟨?_, ?_⟩ <;> intro vs j m h
    · simp only [mgKids, Option.some.injEq, Prod.mk.injEq] at h
      obtain ⟨rfl, rfl, rfl⟩ := h
      simp [szs, nodess, hi]
    · simp only [mgKids, Option.some.injEq, Prod.mk.injEq] at h
      obtain ⟨rfl, rfl, rfl⟩ := h
      rfl
  | k + 1, i, l, hi => by
    have key : ∀ vs j m, mgKids g (k + 1) i l = some (vs, j, m) → (szs vs + i ≤ j ∧ j ≤ s.size ∧ nodess vs + m ≤ l ∧ ∀ t ∈ vs, VOk t) ∧ vs.length = k + 1 := by
      intro vs j m h
      rw [mgKids] at h
      cases hp : mgKids g k i l with
      | none => rw [hp] at h; simp at h
      | some p =>
        obtain ⟨ps, pi, pl⟩ := p
        rw [hp] at h
        simp only [Option.bind_some, Option.map_eq_some_iff] at h
        obtain ⟨⟨v, j', m'⟩, h1, h2⟩ := h
        simp only [Prod.mk.injEq] at h2
        obtain ⟨rfl, rfl, rfl⟩ := h2
        have a := (mgKids_cgood hg k i l hi).1 ps pi pl hp
        have al := (mgKids_cgood hg k i l hi).2 ps pi pl hp
        have b := hg pi pl v j' m' h1
        refine ⟨⟨?_, b.2.1, ?_, ?_⟩, ?_⟩
        · rw [szs_append', szs, szs]; omega
        · rw [nodess_append, nodess, nodess]; omega
        · intro t ht
          rw [List.mem_append, List.mem_singleton] at ht
          rcases ht with ht | rfl
          · exact a.2.2.2 t ht
          · exact b.2.2.2.2.1
        · rw [List.length_append, al]; rfl
    exact ⟨fun vs j m h => (key vs j m h).1, fun vs j m h => (key vs j m h).2⟩
theorem cgUpto_good {s : ByteArray} {g : Nat → Nat → MG} (hg : ∀ i l, CGood s i l (g i l)) : ∀ f i l, CKGood s i l (cgUpto s g f i l)
  | 0, i, l => fun vs j m h => by cases h
  | f + 1, i, l => by
    intro vs j m h
    rw [cgUpto] at h
    split at h
    · rename_i hi
      split at h
      · simp only [Option.some.injEq, Prod.mk.injEq] at h
        obtain ⟨rfl, rfl, rfl⟩ := h
        simp [szs, nodess]; omega
      · cases hq : g i l with
        | none => rw [hq] at h; simp at h
        | some q =>
          obtain ⟨v, j1, m1⟩ := q
          rw [hq] at h
          simp only [Option.bind_some, Option.map_eq_some_iff] at h
          obtain ⟨⟨ps, j2, m2⟩, h1, h2⟩ := h
          simp only [Prod.mk.injEq] at h2
          obtain ⟨rfl, rfl, rfl⟩ := h2
          have a := hg i l v j1 m1 hq
          have b := cgUpto_good hg f j1 m1 ps j2 m2 h1
          refine ⟨?_, b.2.1, ?_, ?_⟩
          · rw [szs]; omega
          · rw [nodess]; omega
          · intro t ht
            rw [List.mem_cons] at ht
            rcases ht with rfl | ht
            · exact a.2.2.2.2.1
            · exact b.2.2.2 t ht
    · cases h
theorem hdR_some {lo : Bool} {s : ByteArray} {i a n x : Nat} (h : hdR lo s i = some (a, n, x)) : i + 1 ≤ x ∧ x ≤ s.size ∧ n < 18446744073709551616 ∧ a ≤ 7 ∧ (if lo then anyH s i else getH s i) = ((a : Int), (n : Int), (x : Int)) := by
  unfold hdR at h
  have hf := anyH_found s (i : Int)
  generalize hr : (if lo then anyH s i else getH s i) = r at *
  have hr2 : r = anyH s i ∨ r = (-1, 0, -1) := by
    rw [← hr]
    cases lo
    · simp only [Bool.false_eq_true, if_false, getH]; split <;> simp
    · simp
  obtain ⟨r1, r2, r3⟩ := r
  split at h
  · cases h
  · rename_i h3
    simp only [Option.some.injEq, Prod.mk.injEq] at h h3
    obtain ⟨rfl, rfl, rfl⟩ := h
    rcases hr2 with e | e
    · rcases hf with f | ⟨a', n', x', f, hF⟩
      · rw [f] at e; simp only [Prod.mk.injEq] at e; omega
      · rw [f] at e
        simp only [Prod.mk.injEq] at e
        obtain ⟨rfl, rfl, rfl⟩ := e
        have h1 := hF.i0; have h2 := hF.a0; have h4 := hF.a7; have h5 := hF.n0; have h6 := hF.n1; have h7 := hF.x0; have h8 := hF.x1
        refine ⟨by omega, by omega, by omega, by omega, ?_⟩
        simp only [Prod.mk.injEq]
        omega
    · simp only [Prod.mk.injEq] at e; omega
theorem cgChunks_good {s : ByteArray} {a : Nat} : ∀ f i t j, cgChunks s a f i = some (t, j) → t.size + i + 1 ≤ j ∧ j ≤ s.size
  | 0, i, t, j, h => by cases h
  | f + 1, i, t, j, h => by
    rw [cgChunks] at h
    split at h
    · rename_i hi
      split at h
      · simp only [Option.some.injEq, Prod.mk.injEq] at h
        obtain ⟨rfl, rfl⟩ := h
        have e0 : (⟨#[]⟩ : ByteArray).size = 0 := rfl
        omega
      · cases hh : hdR true s i with
        | none => rw [hh] at h; cases h
        | some q =>
          obtain ⟨m, n, x⟩ := q
          rw [hh] at h
          have h0 := hdR_some hh
          simp only at h
          split at h
          · rename_i hc
            simp only [Option.map_eq_some_iff] at h
            obtain ⟨⟨t', j'⟩, h1, h2⟩ := h
            simp only [Prod.mk.injEq] at h2
            obtain ⟨rfl, rfl⟩ := h2
            have b := cgChunks_good f (x + n) t' j' h1
            rw [ByteArray.size_append, ByteArray.size_extract]
            omega
          · cases h
    · cases h
theorem cgood_none (s : ByteArray) (i l : Nat) : CGood s i l none := fun _ _ _ h => by cases h
theorem cg_ite {s : ByteArray} {i l : Nat} {c : Prop} [Decidable c] {a b : MG} (ha : c → CGood s i l a) (hb : ¬ c → CGood s i l b) : CGood s i l (if c then a else b) := by
  by_cases h : c
  · rw [if_pos h]; exact ha h
  · rw [if_neg h]; exact hb h
theorem mgLeaf_kids {k n e : Int} {i l : Nat} {v : V} {j m : Nat} (h : mgLeaf k n e i l = some (v, j, m)) : v.kids = [] := by
  simp only [mgLeaf, Option.some.injEq, Prod.mk.injEq] at h
  obtain ⟨rfl, -⟩ := h; rfl
theorem mgStr_kids {s : ByteArray} {k : Int} {i many l : Nat} {v : V} {j m : Nat} (h : mgStr s k i many l = some (v, j, m)) : v.kids = [] := by
  unfold mgStr at h
  split at h
  · simp only [Option.some.injEq, Prod.mk.injEq] at h
    obtain ⟨rfl, -⟩ := h; rfl
  · cases h
theorem MGood.c {s : ByteArray} {i l : Nat} {o : MG} (h : MGood s i l o) (hk : ∀ v j m, o = some (v, j, m) → v.kids = []) : CGood s i l o := fun v j m e => by
  have := h v j m e
  exact ⟨this.1, this.2.1, this.2.2.1, by omega, ⟨this.2.2.2.2, fun _ => hk v j m e⟩, fun t ht => by rw [hk v j m e] at ht; cases ht⟩
theorem cgNode_good {s : ByteArray} {k n : Int} {i0 i l : Nat} {o : Option (List V × Nat × Nat)} (h : i0 + 1 ≤ i) (hk3 : k ≠ 3) (hk : In64 k) (hn : In64 n) (ho : CKGood s i l o) : CGood s i0 (l + 1) (mgNode k n o) := by
  intro v j' m h1
  simp only [mgNode, Option.map_eq_some_iff] at h1
  obtain ⟨⟨vs, j, m'⟩, h2, h3⟩ := h1
  simp only [Prod.mk.injEq] at h3
  obtain ⟨rfl, rfl, rfl⟩ := h3
  have a := ho vs _ _ h2
  refine ⟨?_, a.2.1, by omega, ?_, ⟨⟨hk, hn, ⟨by show (-9223372036854775808 : Int) ≤ 0; omega, by show (0 : Int) ≤ _; omega⟩, by show ByteArray.size ⟨#[]⟩ ≤ _; simp [ByteArray.size]⟩, fun h3 => absurd h3 hk3⟩, a.2.2.2⟩
  · rw [V.sz]; show ByteArray.size ⟨#[]⟩ + szs vs + 1 + i0 ≤ _; simp [ByteArray.size]; omega
  · rw [V.nodes_eq]; show 1 + nodess vs + m' ≤ l + 1; omega
theorem evenK_some {sp : Bool} {o : Option (List V × Nat × Nat)} {p : List V × Nat × Nat} (h : evenK sp o = some p) : o = some p ∧ (sp = true → p.1.length % 2 = 0) := by
  unfold evenK at h
  cases o with
  | none => cases h
  | some q =>
    simp only [Option.bind_some] at h
    split at h
    · cases h
    · rename_i hc
      simp only [Option.some.injEq] at h
      subst h
      exact ⟨rfl, fun hs => by
        by_cases h2 : q.1.length % 2 = 1
        · exact absurd ⟨hs, h2⟩ hc
        · omega⟩
theorem evenK_good {sp : Bool} {s : ByteArray} {i l : Nat} {o : Option (List V × Nat × Nat)} (h : CKGood s i l o) : CKGood s i l (evenK sp o) := fun vs j m e => h vs j m (evenK_some e).1
theorem cgText_good {s : ByteArray} {k : Int} {i0 a f i l : Nat} (hs : s.size ≤ 1048576) (h : i0 + 1 ≤ i) (hk : In64 k) : CGood s i0 (l + 1) ((cgChunks s a f i).map fun p => (.mk k 0 0 p.1 [], p.2, l)) := by
  intro v j m e
  simp only [Option.map_eq_some_iff] at e
  obtain ⟨⟨t, j'⟩, h1, h2⟩ := e
  simp only [Prod.mk.injEq] at h2
  obtain ⟨rfl, rfl, rfl⟩ := h2
  have a := cgChunks_good f i t j' h1
  refine ⟨?_, a.2, by omega, ?_, ⟨⟨hk, ⟨by show (-9223372036854775808 : Int) ≤ 0; omega, by show (0 : Int) ≤ _; omega⟩, ⟨by show (-9223372036854775808 : Int) ≤ 0; omega, by show (0 : Int) ≤ _; omega⟩, by show t.size ≤ _; omega⟩, fun _ => rfl⟩, fun t ht => by cases ht⟩
  · rw [V.sz, szs]; omega
  · rw [V.nodes_eq]; simp [V.kids, nodess]; omega
theorem z64 : In64 0 := by unfold In64; omega

theorem cgOpen_good {sp : Bool} {s : ByteArray} {g : Nat → Nat → MG} (hs : s.size ≤ 1048576) (hg : ∀ i l, CGood s i l (g i l)) (a i l : Nat) : CGood s i (l + 1) (cgOpen sp s g a (i + 1) l) := by
  unfold cgOpen
  refine cg_ite (fun _ => cgText_good hs (by omega) (k64 _ (by omega) (by omega))) (fun _ => ?_)
  refine cg_ite (fun _ => cgText_good hs (by omega) (k64 _ (by omega) (by omega))) (fun _ => ?_)
  refine cg_ite (fun _ => cgNode_good (by omega) (by decide) (k64 _ (by omega) (by omega)) z64 (cgUpto_good hg _ _ _)) (fun _ => ?_)
  exact cgNode_good (by omega) (by decide) (k64 _ (by omega) (by omega)) z64 (evenK_good (cgUpto_good hg _ _ _))
theorem decOf_some {q : V × Nat × Nat} {v : V} {j m : Nat} (h : decOf q = some (v, j, m)) : ∃ n e s x y, q = (.mk 7 n e s [x, y], j, m) ∧ x.k = 3 ∧ y.k = 3 ∧ v = .mk 4 y.n x.n ⟨#[]⟩ [] := by
  unfold decOf at h
  split at h
  · rename_i k n e s x y j' m'
    split at h
    · rename_i hc
      simp only [mgLeaf, Option.some.injEq, Prod.mk.injEq] at h
      obtain ⟨rfl, rfl, rfl⟩ := h
      obtain ⟨rfl, h1, h2⟩ := hc
      exact ⟨n, e, s, x, y, rfl, h1, h2, rfl⟩
    · cases h
  · cases h
theorem cgTag_good {s : ByteArray} {i x l n : Nat} {o : MG} (hx : i + 1 ≤ x) (ho : CGood s x l o) : CGood s i (l + 1) (o.bind (cgTag n)) := by
  intro v j m h
  cases o with
  | none => cases h
  | some q =>
    obtain ⟨v', j', m'⟩ := q
    have a := ho v' j' m' rfl
    rw [Option.bind_some] at h
    unfold cgTag at h
    split at h
    · obtain ⟨n1, e1, s1, x1, y1, e, hx1, hy1, rfl⟩ := decOf_some h
      simp only [Prod.mk.injEq] at e
      obtain ⟨rfl, rfl, rfl⟩ := e
      have wx := a.2.2.2.2.2 x1 (by simp [V.kids])
      have wy := a.2.2.2.2.2 y1 (by simp [V.kids])
      refine ⟨?_, a.2.1, by omega, ?_, ⟨⟨k64 4 (by omega) (by omega), wy.1.2.1, wx.1.2.1, by show ByteArray.size ⟨#[]⟩ ≤ _; simp [ByteArray.size]⟩, fun _ => rfl⟩, fun t ht => by cases ht⟩
      · rw [V.sz, szs]; simp [ByteArray.size]; omega
      · rw [V.nodes_eq]; simp [V.kids, nodess]; omega
    · simp only [Option.some.injEq, Prod.mk.injEq] at h
      obtain ⟨rfl, rfl, rfl⟩ := h
      refine ⟨?_, a.2.1, by omega, ?_, ⟨⟨k64 9 (by omega) (by omega), k64 ((min n 4294967296 : Nat) : Int) (by omega) (by omega), z64, by show ByteArray.size ⟨#[]⟩ ≤ _; simp [ByteArray.size]⟩, fun h3 => absurd (show (9 : Int) = 3 from h3) (by decide)⟩, fun t ht => ?_⟩
      · rw [V.sz, szs, szs]; simp [ByteArray.size]; omega
      · rw [V.nodes_eq]; simp [V.kids, nodess]; omega
      · obtain rfl : t = v' := by simpa [V.kids] using ht
        exact a.2.2.2.2.1
theorem cgHead_good {sp lo : Bool} {s : ByteArray} {g : Nat → Nat → MG} (hs : s.size ≤ 1048576) (hg : ∀ i l, CGood s i l (g i l)) (a n i x l : Nat) (hx : i + 1 ≤ x) (hxs : x ≤ s.size) : CGood s i (l + 1) (cgHead sp lo s g a n x l) := by
  have lf : ∀ k n : Int, 0 ≤ k → k ≤ 9 → In64 n → CGood s i (l + 1) (mgLeaf k n 0 x l) := fun k n h1 h2 h3 => (mgLeaf_good hx hxs (k64 _ h1 (by omega)) h3 z64).c (fun _ _ _ e => mgLeaf_kids e)
  have st : ∀ k : Int, 0 ≤ k → k ≤ 9 → CGood s i (l + 1) (mgStr s k x n l) := fun k h1 h2 => (mgStr_good hs hx (k64 _ h1 (by omega))).c (fun _ _ _ e => mgStr_kids e)
  unfold cgHead
  refine cg_ite (fun _ => cg_ite (fun _ => cgood_none _ _ _) (fun h => lf 3 _ (by omega) (by omega) (by unfold In64; split <;> omega))) (fun _ => ?_)
  refine cg_ite (fun _ => st 6 (by omega) (by omega)) (fun _ => ?_)
  refine cg_ite (fun _ => st 5 (by omega) (by omega)) (fun _ => ?_)
  refine cg_ite (fun _ => cg_ite (fun _ => cgood_none _ _ _) (fun _ => cgNode_good hx (by decide) (k64 _ (by omega) (by omega)) z64 (mgKids_cgood hg _ _ _ hxs).1)) (fun _ => ?_)
  refine cg_ite (fun _ => cg_ite (fun _ => cgood_none _ _ _) (fun _ => cgNode_good hx (by decide) (k64 _ (by omega) (by omega)) z64 (mgKids_cgood hg _ _ _ hxs).1)) (fun _ => ?_)
  refine cg_ite (fun _ => cg_ite (fun _ => cgood_none _ _ _) (fun _ => cgTag_good hx (hg _ _))) (fun _ => ?_)
  refine cg_ite (fun _ => lf 1 0 (by omega) (by omega) z64) (fun _ => ?_)
  refine cg_ite (fun _ => lf 2 0 (by omega) (by omega) z64) (fun _ => ?_)
  exact cg_ite (fun _ => lf 0 0 (by omega) (by omega) z64) (fun _ => cgood_none _ _ _)
theorem cg_good {sp lo : Bool} {s : ByteArray} (hs : s.size ≤ 1048576) : ∀ f i l, CGood s i l (cg sp lo s f i l)
  | 0, i, l => cgood_none _ _ _
  | f + 1, i, l => by
    rw [cg]
    split
    · rename_i h
      split
      · exact cgood_none _ _ _
      · obtain ⟨l', rfl⟩ : ∃ l', l = l' + 1 := ⟨l - 1, by omega⟩
        rw [show l' + 1 - 1 = l' by omega]
        unfold cgVal
        refine cg_ite (fun _ => cgOpen_good hs (cg_good hs f) _ _ _) (fun _ => ?_)
        cases hh : hdR lo s i with
        | none => exact cgood_none _ _ _
        | some q =>
          obtain ⟨a, n, x⟩ := q
          have := hdR_some hh
          exact cgHead_good hs (cg_good hs f) a n i x l' this.1 this.2.1
    · exact cgood_none _ _ _
/-- what the reference's reader reads the program's reads -/
def Sub (g g' : Nat → Nat → MG) : Prop := ∀ i l r, g i l = some r → g' i l = some r
theorem mgKids_sub {g g' : Nat → Nat → MG} (h : Sub g g') : ∀ k i l r, mgKids g k i l = some r → mgKids g' k i l = some r
  | 0, i, l, r, e => e
  | k + 1, i, l, r, e => by
    rw [mgKids] at e ⊢
    cases hp : mgKids g k i l with
    | none => rw [hp] at e; cases e
    | some p =>
      rw [hp, Option.bind_some, Option.map_eq_some_iff] at e
      obtain ⟨q, h1, h2⟩ := e
      rw [mgKids_sub h k i l p hp, Option.bind_some, h _ _ _ h1, Option.map_some, h2]
theorem cgUpto_sub {s : ByteArray} {g g' : Nat → Nat → MG} (h : Sub g g') : ∀ f i l r, cgUpto s g f i l = some r → cgUpto s g' f i l = some r
  | 0, i, l, r, e => e
  | f + 1, i, l, r, e => by
    rw [cgUpto] at e ⊢
    split at e
    · rename_i hi
      rw [dif_pos hi]
      split at e
      · rename_i h5; rw [if_pos h5]; exact e
      · rename_i h5
        rw [if_neg h5]
        cases hq : g i l with
        | none => rw [hq] at e; cases e
        | some q =>
          rw [hq, Option.bind_some, Option.map_eq_some_iff] at e
          obtain ⟨p, h1, h2⟩ := e
          rw [h _ _ _ hq, Option.bind_some, cgUpto_sub h f _ _ _ h1, Option.map_some, h2]
    · cases e
theorem map_sub {α β : Type} {o o' : Option α} {f : α → β} (h : ∀ r, o = some r → o' = some r) : ∀ r, o.map f = some r → o'.map f = some r := fun r e => by
  rw [Option.map_eq_some_iff] at e ⊢
  obtain ⟨a, h1, h2⟩ := e
  exact ⟨a, h a h1, h2⟩
theorem cgHead_sub {lo : Bool} {s : ByteArray} {g g' : Nat → Nat → MG} (h : Sub g g') (a n x l : Nat) : ∀ r, cgHead true lo s g a n x l = some r → cgHead false lo s g' a n x l = some r := by
  intro r e
  unfold cgHead at e ⊢
  by_cases h1 : a ≤ 1
  · rw [if_pos h1] at e ⊢; exact e
  rw [if_neg h1] at e ⊢
  by_cases h2 : a = 2
  · rw [if_pos h2] at e ⊢; exact e
  rw [if_neg h2] at e ⊢
  by_cases h3 : a = 3
  · rw [if_pos h3] at e ⊢; exact e
  rw [if_neg h3] at e ⊢
  by_cases h4 : a = 4
  · rw [if_pos h4] at e ⊢
    rw [if_neg (by simp)]
    split at e
    · cases e
    · exact map_sub (mgKids_sub h _ _ _) _ e
  rw [if_neg h4] at e ⊢
  by_cases h5 : a = 5
  · rw [if_pos h5] at e ⊢
    rw [if_neg (by simp)]
    split at e
    · cases e
    · exact map_sub (mgKids_sub h _ _ _) _ e
  rw [if_neg h5] at e ⊢
  by_cases h6 : a = 6
  · rw [if_pos h6] at e ⊢
    rw [if_neg (by simp)]
    split at e
    · cases e
    · cases hq : g x l with
      | none => rw [hq] at e; cases e
      | some q => rw [hq, Option.bind_some] at e; rw [h _ _ _ hq, Option.bind_some]; exact e
  rw [if_neg h6] at e ⊢
  exact e
theorem cgOpen_sub {s : ByteArray} {g g' : Nat → Nat → MG} (h : Sub g g') (a i l : Nat) : ∀ r, cgOpen true s g a i l = some r → cgOpen false s g' a i l = some r := by
  intro r e
  unfold cgOpen at e ⊢
  by_cases h2 : a = 2
  · rw [if_pos h2] at e ⊢; exact e
  rw [if_neg h2] at e ⊢
  by_cases h3 : a = 3
  · rw [if_pos h3] at e ⊢; exact e
  rw [if_neg h3] at e ⊢
  by_cases h4 : a = 4
  · rw [if_pos h4] at e ⊢
    exact map_sub (cgUpto_sub h _ _ _) _ e
  rw [if_neg h4] at e ⊢
  refine map_sub (fun r e => ?_) _ e
  have := (evenK_some e).1
  rw [cgUpto_sub h _ _ _ _ this]
  simp [evenK]
theorem cg_sub (lo : Bool) (s : ByteArray) : ∀ f f', f ≤ f' → Sub (cg true lo s f) (cg false lo s f')
  | 0, f', _ => fun i l r e => by cases e
  | f + 1, f', hf => fun i l r e => by
    obtain ⟨f2, rfl⟩ : ∃ f2, f' = f2 + 1 := ⟨f' - 1, by omega⟩
    have ih := cg_sub lo s f f2 (by omega)
    rw [cg] at e ⊢
    split at e
    · rename_i hi
      rw [dif_pos hi]
      split at e
      · cases e
      · rename_i hl
        rw [if_neg hl]
        unfold cgVal at e ⊢
        split at e
        · rename_i ho; rw [if_pos ho]; exact cgOpen_sub ih _ _ _ _ e
        · rename_i ho
          rw [if_neg ho]
          split at e
          · cases e
          · rename_i a n x hh
            exact cgHead_sub ih _ _ _ _ _ e
    · cases e
mutual
/-- within the reference's limits -/
def limB : V → Nat → Bool
  | .mk k n e s ks, f => decide (1 ≤ f) && (if k = 4 then decide (3 ≤ f) else true) && (if k = 7 then decide (ks.length ≤ 300) else true) && (if k = 8 then decide (ks.length ≤ 600 ∧ ks.length % 2 = 0) else true) && (if k = 9 then decide (0 ≤ n ∧ n ≤ 1000000) else true) && limsB ks (f - 1)
def limsB : List V → Nat → Bool
  | [], _ => true
  | t :: ts, f => limB t f && limsB ts f
 end
theorem limB_eq (t : V) (f : Nat) : limB t f = (decide (1 ≤ f) && (if t.k = 4 then decide (3 ≤ f) else true) && (if t.k = 7 then decide (t.kids.length ≤ 300) else true) && (if t.k = 8 then decide (t.kids.length ≤ 600 ∧ t.kids.length % 2 = 0) else true) && (if t.k = 9 then decide (0 ≤ t.n ∧ t.n ≤ 1000000) else true) && limsB t.kids (f - 1)) := by cases t; rw [limB]; rfl
theorem limsB_append : ∀ (a b : List V) (f : Nat), limsB (a ++ b) f = (limsB a f && limsB b f)
  | [], b, f => by simp [limsB]
  | t :: a, b, f => by rw [List.cons_append, limsB, limsB, limsB_append a b f, Bool.and_assoc]
def Back (g g' : Nat → Nat → MG) (f : Nat) : Prop := ∀ i l v j m, g' i l = some (v, j, m) → limB v f = true → g i l = some (v, j, m)
theorem mgKids_back {g g' : Nat → Nat → MG} {f : Nat} (h : Back g g' f) : ∀ k i l vs j m, mgKids g' k i l = some (vs, j, m) → limsB vs f = true → mgKids g k i l = some (vs, j, m)
  | 0, i, l, vs, j, m, e, _ => e
  | k + 1, i, l, vs, j, m, e, hl => by
    rw [mgKids] at e ⊢
    cases hp : mgKids g' k i l with
    | none => rw [hp] at e; cases e
    | some p =>
      obtain ⟨ps, pj, pm⟩ := p
      rw [hp, Option.bind_some, Option.map_eq_some_iff] at e
      obtain ⟨⟨q, qj, qm⟩, h1, h2⟩ := e
      simp only [Prod.mk.injEq] at h2
      obtain ⟨rfl, rfl, rfl⟩ := h2
      rw [limsB_append, Bool.and_eq_true, limsB, limsB, Bool.and_true] at hl
      rw [mgKids_back h k i l ps pj pm hp hl.1, Option.bind_some, h _ _ _ _ _ h1 hl.2]
      rfl
theorem cgUpto_back {s : ByteArray} {g g' : Nat → Nat → MG} {f0 : Nat} (h : Back g g' f0) : ∀ f i l vs j m, cgUpto s g' f i l = some (vs, j, m) → limsB vs f0 = true → cgUpto s g f i l = some (vs, j, m)
  | 0, i, l, vs, j, m, e, _ => e
  | f + 1, i, l, vs, j, m, e, hl => by
    rw [cgUpto] at e ⊢
    split at e
    · rename_i hi
      rw [dif_pos hi]
      split at e
      · rename_i h5; rw [if_pos h5]; exact e
      · rename_i h5
        rw [if_neg h5]
        cases hq : g' i l with
        | none => rw [hq] at e; cases e
        | some q =>
          obtain ⟨v, j1, m1⟩ := q
          rw [hq, Option.bind_some, Option.map_eq_some_iff] at e
          obtain ⟨⟨ps, j2, m2⟩, h1, h2⟩ := e
          simp only [Prod.mk.injEq] at h2
          obtain ⟨rfl, rfl, rfl⟩ := h2
          rw [limsB, Bool.and_eq_true] at hl
          rw [h _ _ _ _ _ hq hl.1, Option.bind_some, cgUpto_back h f _ _ _ _ _ h1 hl.2]
          rfl
    · cases e
theorem mgNode_some {k n : Int} {o : Option (List V × Nat × Nat)} {v : V} {j m : Nat} (h : mgNode k n o = some (v, j, m)) : ∃ vs, o = some (vs, j, m) ∧ v = .mk k n 0 ⟨#[]⟩ vs := by
  simp only [mgNode, Option.map_eq_some_iff] at h
  obtain ⟨⟨vs, j', m'⟩, h1, h2⟩ := h
  simp only [Prod.mk.injEq] at h2
  obtain ⟨rfl, rfl, rfl⟩ := h2
  exact ⟨vs, h1, rfl⟩
theorem lim_kids {t : V} {f : Nat} (h : limB t f = true) : limsB t.kids (f - 1) = true ∧ 1 ≤ f := by
  rw [limB_eq] at h
  simp only [Bool.and_eq_true, decide_eq_true_eq] at h
  exact ⟨h.2, h.1.1.1.1.1⟩
theorem cgOpen_back {s : ByteArray} {g g' : Nat → Nat → MG} {f : Nat} (h : Back g g' (f - 1)) (a i l : Nat) : ∀ v j m, cgOpen false s g' a i l = some (v, j, m) → limB v f = true → cgOpen true s g a i l = some (v, j, m) := by
  intro v j m e hl
  unfold cgOpen at e ⊢
  by_cases h2 : a = 2
  · rw [if_pos h2] at e ⊢; exact e
  rw [if_neg h2] at e ⊢
  by_cases h3 : a = 3
  · rw [if_pos h3] at e ⊢; exact e
  rw [if_neg h3] at e ⊢
  by_cases h4 : a = 4
  · rw [if_pos h4] at e ⊢
    obtain ⟨vs, h1, rfl⟩ := mgNode_some e
    rw [cgUpto_back h _ _ _ _ _ _ h1 (lim_kids hl).1]
    rfl
  rw [if_neg h4] at e ⊢
  obtain ⟨vs, h1, rfl⟩ := mgNode_some e
  have h5 := (evenK_some h1).1
  rw [cgUpto_back h _ _ _ _ _ _ h5 (lim_kids hl).1]
  rw [limB_eq] at hl
  simp only [Bool.and_eq_true, V.k, V.kids] at hl
  have h6 := hl.1.1.2
  rw [if_pos trivial] at h6; replace h6 := of_decide_eq_true h6
  simp [evenK, h6.2, mgNode]
theorem cgHead_back {lo : Bool} {s : ByteArray} {g g' : Nat → Nat → MG} {f : Nat} (hg' : ∀ i l, CGood s i l (g' i l)) (h : Back g g' (f - 1)) (a n x l : Nat) (hx : x ≤ s.size) : ∀ v j m, cgHead false lo s g' a n x l = some (v, j, m) → limB v f = true → cgHead true lo s g a n x l = some (v, j, m) := by
  intro v j m e hl
  unfold cgHead at e ⊢
  by_cases h1 : a ≤ 1
  · rw [if_pos h1] at e ⊢; exact e
  rw [if_neg h1] at e ⊢
  by_cases h2 : a = 2
  · rw [if_pos h2] at e ⊢; exact e
  rw [if_neg h2] at e ⊢
  by_cases h3 : a = 3
  · rw [if_pos h3] at e ⊢; exact e
  rw [if_neg h3] at e ⊢
  by_cases h4 : a = 4
  · rw [if_pos h4] at e ⊢
    rw [if_neg (by simp)] at e
    obtain ⟨vs, h5, rfl⟩ := mgNode_some e
    have hlen := (mgKids_cgood hg' _ _ _ hx).2 _ _ _ h5
    have hl2 := hl
    rw [limB_eq] at hl2
    simp only [Bool.and_eq_true, V.k, V.kids] at hl2
    have h6 := hl2.1.1.1.2
    rw [if_pos trivial] at h6; replace h6 := of_decide_eq_true h6
    rw [if_neg (by omega), mgKids_back h _ _ _ _ _ _ h5 (lim_kids hl).1]
    rfl
  rw [if_neg h4] at e ⊢
  by_cases h5 : a = 5
  · rw [if_pos h5] at e ⊢
    rw [if_neg (by simp)] at e
    obtain ⟨vs, h5, rfl⟩ := mgNode_some e
    have hlen := (mgKids_cgood hg' _ _ _ hx).2 _ _ _ h5
    have hl2 := hl
    rw [limB_eq] at hl2
    simp only [Bool.and_eq_true, V.k, V.kids] at hl2
    have h6 := hl2.1.1.2
    rw [if_pos trivial] at h6; replace h6 := of_decide_eq_true h6
    rw [if_neg (by omega), mgKids_back h _ _ _ _ _ _ h5 (lim_kids hl).1]
    rfl
  rw [if_neg h5] at e ⊢
  by_cases h6 : a = 6
  · rw [if_pos h6] at e ⊢
    rw [if_neg (by simp)] at e
    cases hq : g' x l with
    | none => rw [hq] at e; cases e
    | some q =>
      obtain ⟨v', j', m'⟩ := q
      rw [hq, Option.bind_some] at e
      have e0 := e
      unfold cgTag at e
      by_cases h7 : n = 4
      · rw [if_pos h7] at e
        obtain ⟨n1, e1, s1, x1, y1, e2, hx1, hy1, rfl⟩ := decOf_some e
        simp only [Prod.mk.injEq] at e2
        obtain ⟨rfl, rfl, rfl⟩ := e2
        rw [limB_eq] at hl
        simp only [Bool.and_eq_true, V.k, V.kids] at hl
        have h8 := hl.1.1.1.1.2
        rw [if_pos trivial] at h8; replace h8 := of_decide_eq_true h8
        have hgd := (hg' x l _ _ _ hq).2.2.2.2.2
        have hi : ∀ t : V, VOk t → t.k = 3 → limB t (f - 1 - 1) = true := by
          intro t hv ht
          rw [limB_eq, ht, hv.2 ht]
          simp [limsB]; omega
        have hb : limB (.mk 7 n1 e1 s1 [x1, y1]) (f - 1) = true := by
          rw [limB, limsB, limsB, limsB, hi x1 (hgd _ (by simp [V.kids])) hx1, hi y1 (hgd _ (by simp [V.kids])) hy1]
          simp; omega
        rw [if_neg (by omega), h _ _ _ _ _ hq hb, Option.bind_some]
        exact e0
      · rw [if_neg h7] at e
        simp only [Option.some.injEq, Prod.mk.injEq] at e
        obtain ⟨rfl, rfl, rfl⟩ := e
        have hl3 := (lim_kids hl).1
        rw [limB_eq] at hl
        simp only [Bool.and_eq_true, V.k, V.n, V.kids] at hl
        have h8 := hl.1.2
        rw [if_pos trivial] at h8; replace h8 := of_decide_eq_true h8
        simp only [V.kids, limsB, Bool.and_true] at hl3
        rw [if_neg (by omega), h _ _ _ _ _ hq hl3, Option.bind_some]
        exact e0
  rw [if_neg h6] at e ⊢
  exact e
theorem cg_back (lo : Bool) (s : ByteArray) (hs : s.size ≤ 1048576) : ∀ f f', f ≤ f' → Back (cg true lo s f) (cg false lo s f') f
  | 0, f', _ => fun i l v j m e hl => by
    have := (lim_kids hl).2; omega
  | f + 1, f', hf => fun i l v j m e hl => by
    obtain ⟨f2, rfl⟩ : ∃ f2, f' = f2 + 1 := ⟨f' - 1, by omega⟩
    have ih := cg_back lo s hs f f2 (by omega)
    rw [cg] at e ⊢
    split at e
    · rename_i hi
      rw [dif_pos hi]
      split at e
      · cases e
      · rename_i hl2
        rw [if_neg hl2]
        unfold cgVal at e ⊢
        split at e
        · rename_i ho; rw [if_pos ho]; exact cgOpen_back (f := f + 1) ih _ _ _ _ _ _ e hl
        · rename_i ho
          rw [if_neg ho]
          split at e
          · cases e
          · rename_i a n x hh
            have := hdR_some hh
            exact cgHead_back (f := f + 1) (cg_good hs f2) ih _ _ _ _ this.2.1 _ _ _ e hl
    · cases e
theorem nodess_ge1 : ∀ ts : List V, ts.length ≤ nodess ts := nodess_length
theorem map_even {t : V} {d : Int} (h : rightB t d = true) (h8 : t.k = 8) : t.kids.length % 2 = 0 := by
  rw [rightB_eq] at h
  simp only [Bool.and_eq_true, ownB] at h
  have h3 := h.1.2.2
  rw [if_neg (by omega), if_neg (by omega), if_pos h8] at h3
  unfold pairsB at h3
  simp only [Bool.and_eq_true, decide_eq_true_eq] at h3
  exact h3.1.2
mutual
theorem right_lim : ∀ (t : V) (d : Nat), rightB t d = true → t.nodes ≤ 300 → limB t (d + 3) = true
  | .mk k n e s ks, d, h, hn => by
    have hk := nodess_length ks
    rw [V.nodes] at hn
    have h2 := h
    rw [rightB_eq] at h2
    simp only [Bool.and_eq_true, ownB, V.k, V.kids] at h2
    have h9 := tag_n h
    have hks := rights_lim ks (d - 1) (by have := h2.2; by_cases hd : 0 < d; · rwa [show ((d - 1 : Nat) : Int) = (d : Int) - 1 by omega]
                                          · cases ks with
                                            | nil => rfl
                                            | cons t ts =>
                                              rw [rightsB, Bool.and_eq_true] at this
                                              have h3 := this.1
                                              rw [rightB_eq] at h3
                                              simp only [Bool.and_eq_true, decide_eq_true_eq] at h3
                                              omega) (by omega)
    rw [limB]
    simp only [Bool.and_eq_true, decide_eq_true_eq]
    refine ⟨⟨⟨⟨⟨by omega, ?_⟩, ?_⟩, ?_⟩, ?_⟩, ?_⟩
    · split <;> simp
    · split
      · simp; omega
      · rfl
    · split
      · rename_i h8
        have h3 : ks.length % 2 = 0 := map_even h h8
        simp; omega
      · rfl
    · split
      · rename_i h8
        have h10 : 0 ≤ n ∧ n ≤ 1000000 := h9 h8
        simpa using h10
      · rfl
    · by_cases hd : 0 < d
      · rwa [show d - 1 + 3 = d + 3 - 1 by omega] at hks
      · have : ks = [] := by
          have h3 := h2.2
          cases ks with
          | nil => rfl
          | cons t ts =>
            rw [rightsB, Bool.and_eq_true] at h3
            have h4 := h3.1
            rw [rightB_eq] at h4
            simp only [Bool.and_eq_true, decide_eq_true_eq] at h4
            omega
        rw [this]; rfl
theorem rights_lim : ∀ (ts : List V) (d : Nat), rightsB ts d = true → nodess ts ≤ 300 → limsB ts (d + 3) = true
  | [], _, _, _ => rfl
  | t :: ts, d, h, hn => by
    rw [rightsB, Bool.and_eq_true] at h
    rw [nodess] at hn
    rw [limsB, right_lim t d h.1 (by omega), rights_lim ts d h.2 (by omega)]
    rfl
 end
theorem ok_lim {t : V} (h : okT t = true) : limB t 15 = true := by
  simp only [okT, Bool.and_eq_true, decide_eq_true_eq] at h
  exact right_lim t 12 h.1 h.2
theorem headL_ne (a n : Nat) : headL a n ≠ [] := by
  intro e
  have := congrArg List.length e
  rw [headL_length] at this
  revert this
  (repeat' split) <;> simp
theorem cborL_ne (t : V) : cborL t ≠ [] := by
  rw [cborL_eq]
  intro e
  have e := (List.append_eq_nil_iff.1 e).1
  unfold ownL numL at e
  revert e
  (repeat' split) <;> simp [headL_ne]
/-- what is written is empty where the value is not right -/
theorem cborB_ne {t : V} (h : cborB t ≠ []) : okT t = true := by
  unfold cborB at h
  split at h
  · rename_i h2; simp only [Bool.and_eq_true] at h2; exact h2.1
  · exact absurd rfl h
def VZ : V := .mk 0 0 0 ⟨#[]⟩ []
/-- what both GetCbor return -/
def cborR (o : MG) (s : ByteArray) (i : Nat) : V × Int := match o with
  | some (v, j, _) => if cborB v = (s.extract i j).data.toList then (v, (j : Int)) else (VZ, -1)
  | none => (VZ, -1)
theorem getc_same (s : ByteArray) (i : Nat) (hs : s.size ≤ 1048576) : cborR (cg true false s 15 i 1204) s i = cborR (cg false false s 17 i 1204) s i := by
  cases h : cg true false s 15 i 1204 with
  | some r => rw [cg_sub false s 15 17 (by omega) _ _ _ h]
  | none =>
    cases h2 : cg false false s 17 i 1204 with
    | none => rfl
    | some r =>
      obtain ⟨v, j, m⟩ := r
      have hg := cg_good hs 17 i 1204 v j m h2
      unfold cborR
      simp only
      rw [if_neg]
      intro e
      have hne : cborB v ≠ [] := by
        rw [e]
        intro e2
        have := congrArg List.length e2
        rw [Array.length_toList] at this
        have h3 : (s.extract i j).size = 0 := this
        rw [ByteArray.size_extract] at h3
        omega
      rw [cg_back false s hs 15 17 (by omega) _ _ _ _ _ h2 (ok_lim (cborB_ne hne))] at h
      cases h
/-- what both Loose return -/
def looseR (o : MG) (s : ByteArray) : V × Bool := match o with
  | some (v, j, _) => if j = s.size ∧ cborB v ≠ [] then (v, true) else (VZ, false)
  | none => (VZ, false)
theorem loose_same (s : ByteArray) (hs : s.size ≤ 1048576) : looseR (cg true true s 15 0 1204) s = looseR (cg false true s 17 0 1204) s := by
  cases h : cg true true s 15 0 1204 with
  | some r => rw [cg_sub true s 15 17 (by omega) _ _ _ h]
  | none =>
    cases h2 : cg false true s 17 0 1204 with
    | none => rfl
    | some r =>
      obtain ⟨v, j, m⟩ := r
      unfold looseR
      simp only
      rw [if_neg]
      rintro ⟨-, hne⟩
      rw [cg_back true s hs 15 17 (by omega) _ _ _ _ _ h2 (ok_lim (cborB_ne hne))] at h
      cases h
end Go.Proofs.YtiemlefmhleaeaaDoor
