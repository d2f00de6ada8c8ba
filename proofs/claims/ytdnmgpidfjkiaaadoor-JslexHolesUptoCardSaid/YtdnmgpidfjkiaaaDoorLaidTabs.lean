/-
  WHAT A ROW's LIST GIVES; A WORLD FOR THE WITNESS.
-/
import Derived.Test.YtdnmgpidfjkiaaaDoorCards
import Derived.Test.YtdnmgpidfjkiaaaDoorTie
import Derived.Test.YtdnmgpidfjkiaaaDoorLexW
import Derived.Shelf.Vars
import Derived.WalkKit
import Derived.ProofKit
import Derived.OpenShut
import Derived.Deep.DeepHandedRow
import Derived.Deep.DeepWitnessRowRef
import Derived.Lib.LaidTab
import Derived.Lib.LaidU8
import Derived.Lib.Space
import Derived.Stop.LaidErr
namespace Go.Proofs.YtdnmgpidfjkiaaaDoor
open Go.ChangeShapes Go.WideShapes Go.ChangeAt Go.RowKit
set_option linter.unusedVariables false

theorem ownG : ownKnob Tryd.prog.godebug = none := by kernel_rfl
theorem tabs_none {P : Prop} (h : P) : True := trivial
theorem space_data : (Rows.laid_strings_asciiSpace : DataW Unit) = Lib.tabData .u8 Lib.asciiSpaceTab := by kernel_rfl
set_option maxRecDepth 100000 in
theorem tabs_space {W : World} (h : laidMet Tryd.prog [("unicode.White_Space", Rows.laid_unicode_White_Space), ("strings.asciiSpace", Rows.laid_strings_asciiSpace)] W) : Lib.TabIs Tryd.prog W "strings.asciiSpace" .u8 Lib.asciiSpaceTab := by
  have h2 := laidMet.tail h
  rw [space_data] at h2
  exact Lib.tabIs_of_head (rest := []) (g := 1) (t := 157) (e := 5) (n := 256) (by kernel_rfl) (by kernel_rfl) Tryd.underlying157 Tryd.underlying5 (by kernel_rfl) (by kernel_rfl) h2
set_option maxRecDepth 100000 in
theorem tabs_space4 {W : World} (h : laidMet Tryd.prog [("unicode/utf8.acceptRanges", Rows.laid_unicode_utf8_acceptRanges), ("unicode.White_Space", Rows.laid_unicode_White_Space), ("strings.asciiSpace", Rows.laid_strings_asciiSpace), ("unicode/utf8.first", Rows.laid_unicode_utf8_first)] W) : Lib.TabIs Tryd.prog W "strings.asciiSpace" .u8 Lib.asciiSpaceTab := by
  have h2 := laidMet.tail (laidMet.tail h)
  rw [space_data] at h2
  exact Lib.tabIs_of_head (rest := [("unicode/utf8.first", Rows.laid_unicode_utf8_first)]) (g := 1) (t := 157) (e := 5) (n := 256) (by kernel_rfl) (by kernel_rfl) Tryd.underlying157 Tryd.underlying5 (by kernel_rfl) (by kernel_rfl) h2

set_option maxRecDepth 100000 in
theorem tabs_len {W : World} (h : W.ShapedOpen Tryd.prog) : LenW W := by
  have h0 : ((begin Tryd.prog (fun _ _ => 0) default).world.heap[0]?).bind Obj.row? = some (#[.int .i64 0], 3) := by kernel_rfl
  have hg : 0 < Tryd.prog.globals.size := of_decide_eq_true (by kernel_rfl)
  refine ⟨Go.Proofs.cell_of_shapedOpen_int h hg h0 rfl (by kernel_rfl) (by kernel_rfl) Tryd.underlying3, ?_⟩
  obtain ⟨cs, hh, _⟩ := h.1 _ _ _ hg h0
  exact (Array.getElem?_eq_some_iff.1 hh).1

/-- The settled world (with two blocks more where unicode.White_Space stands), the tables holding what their initialisers lay. -/
noncomputable def laidWorld (os : Os) : World :=
  let N := (World.settled Tryd.prog os).heap.size
  let w0 := World.holding Tryd.prog os ⟨#[.cells (Lib.whiteT.map fun (z : Nat) => Value.int .u16 (z : Int)).toArray 176, .cells #[.slice (some ⟨N, 0, none⟩) 7 7, .slice none 0 0, .int .i64 2] 173], #[], []⟩
  let put (h : Array Obj) (g : Nat) (cs : Array Value) : Array Obj := h.modify g fun
    | .cells _ t frozen => .cells cs t frozen
    | o => o
  let h0 := w0.heap
  let h0 := put h0 1 (Lib.asciiSpaceTab.map fun z => Value.int .u8 z).toArray
  let h0 := put h0 2 #[.pointer (some ⟨N + 1, 0, none⟩)]
  let h0 := put h0 3 (Lib.firstTab.map fun z => Value.int .u8 z).toArray
  let h0 := put h0 4 ((List.range 16).flatMap fun i => [Value.int .u8 (Lib.accLo i), Value.int .u8 (Lib.accHi i)]).toArray
  { w0 with heap := h0 }
end Go.Proofs.YtdnmgpidfjkiaaaDoor
