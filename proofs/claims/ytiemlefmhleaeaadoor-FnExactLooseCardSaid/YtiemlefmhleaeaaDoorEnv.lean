/- The tables of unicode/utf8 in a world; utf8.ValidString and impl.TextOk over them. -/
import Derived.Test.YtiemlefmhleaeaaDoorValM
import Derived.Test.YtiemlefmhleaeaaDoorBytes
import Derived.Test.YtiemlefmhleaeaaDoorShelf
import Derived.Shelf.Unicode.ValidAny
namespace Go.Proofs.YtiemlefmhleaeaaDoor
set_option linter.unusedVariables false
set_option maxRecDepth 100000
open Go.RowKit
def Env (w : World) : Prop := Lib.Utf8Tabs (Tryd.laysValid_ren.g 3) (Tryd.laysValid_ren.g 4) w
theorem Env.keep {w w' : World} (h : Env w) (hb : Below w.heap.size w w') : Env w' := by
  obtain ⟨h1, h2⟩ := h
  refine ⟨fun c hc => ?_, fun i hi => ⟨?_, ?_⟩⟩
  · have := h1 c hc
    rw [hb.cell (World.block_lt_of_cell? w _ this)]; exact this
  · have := (h2 i hi).1
    rw [hb.cell (World.block_lt_of_cell? w _ this)]; exact this
  · have := (h2 i hi).2
    rw [hb.cell (World.block_lt_of_cell? w _ this)]; exact this
theorem validString_any (s : ByteArray) (w : World) (hs : s.size ≤ 9223372036854775807) (hE : Env w) : Calls Tryd.prog 252 #[.string s] w fun e w' => e = .returned (.bool (txt s)) ∧ Below w.heap.size w w' :=
  Any.utf8_ValidString Tryd.laysValid s w hs hE
set_option maxHeartbeats 400000 in
theorem textOk_impl (s : ByteArray) (w : World) (hs : s.size ≤ 9223372036854775807) (hE : Env w) : Calls Tryd.prog 230 #[.string s] w fun e w' => e = .returned (.bool (txt s)) ∧ Below w.heap.size w w' := by
  have V := Lib.hid (validString_any s w hs hE)
  clear hE
  go_enter Tryd.func230, Tryd.ntmps230
  go_wp2_with fail
  refine V.out.mono ?_
  rintro e w1 ⟨rfl, hb⟩
  go_wp2_with fail
  go_ret
  exact ⟨rfl, hb⟩
end Go.Proofs.YtiemlefmhleaeaaDoor
