/-
  WHAT A ROW's LIST GIVES; A WORLD FOR THE WITNESS.
-/
import Derived.Test.YtmgjhofecncgnaaDoorCards
import Derived.Test.YtmgjhofecncgnaaDoorTie
import Derived.WalkKit
import Derived.ProofKit
import Derived.OpenShut
import Derived.Deep.DeepHandedRow
import Derived.Deep.DeepWitnessRowRef
import Derived.Lib.LaidTab
import Derived.Lib.LaidU8
import Derived.Lib.Space
import Derived.Stop.LaidErr
namespace Go.Proofs.YtmgjhofecncgnaaDoor
open Go.ChangeShapes Go.WideShapes Go.ChangeAt Go.RowKit
set_option linter.unusedVariables false

theorem ownG : ownKnob Tryd.prog.godebug = none := by kernel_rfl
theorem tabs_none {P : Prop} (h : P) : True := trivial

/-- The settled world (with two blocks more where unicode.White_Space stands), the tables holding what their initialisers lay. -/
noncomputable def laidWorld (os : Os) : World :=
  let N := (World.settled Tryd.prog os).heap.size
  let w0 := World.holding Tryd.prog os ⟨#[], #[], []⟩
  let put (h : Array Obj) (g : Nat) (cs : Array Value) : Array Obj := h.modify g fun
    | .cells _ t frozen => .cells cs t frozen
    | o => o
  let h0 := w0.heap
  let h0 := put h0 0 (Lib.firstTab.map fun z => Value.int .u8 z).toArray
  let h0 := put h0 1 ((List.range 16).flatMap fun i => [Value.int .u8 (Lib.accLo i), Value.int .u8 (Lib.accHi i)]).toArray
  { w0 with heap := h0 }
end Go.Proofs.YtmgjhofecncgnaaDoor
