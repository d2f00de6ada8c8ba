/-
  muslinlaw40.alive.
-/
import Derived.Test.YtbcbbeenkndgcaaDoorSplit
import Derived.Test.YtbcbbeenkndgcaaDoorQB
namespace Go.Proofs.YtbcbbeenkndgcaaDoor
open Go.RowKit
set_option linter.unusedVariables false
set_option linter.unusedSimpArgs false

def exUrl : List UInt8 := [97, 58, 47, 47, 98, 47, 99, 63, 100, 35, 101]
theorem split_ex : splitB exUrl = ⟨[97], [98], [47, 99], [100], [101], true, true, true, true⟩ := by decide +kernel
theorem alive_split (w : World) : Calls Tryd.prog 69 #[.string ⟨#[97, 58, 47, 47, 98, 47, 99, 63, 100, 35, 101]⟩] w fun e w' => e = .returned (.agg #[.string ⟨#[97]⟩, .string ⟨#[98]⟩, .string ⟨#[47, 99]⟩, .string ⟨#[100]⟩, .string ⟨#[101]⟩, .bool true, .bool true, .bool true, .bool true]) ∧ Below w.heap.size w w' := by
  have h := split_any exUrl w (by decide)
  rw [split_ex] at h
  exact h
set_option maxHeartbeats 1000000 in
set_option maxRecDepth 100000 in
theorem alive40 (w : World) : Calls Tryd.prog 33 #[] w fun e w' => e = .returned (.bool true) ∧ Below w.heap.size w w' := by
  go_enter Tryd.func33, Tryd.ntmps33
  go_wp2_with fail
  refine (alive_split _).mono ?_
  rintro e w1 ⟨rfl, hb1⟩
  go_wp2_with fail
  go_ret
  exact ⟨rfl, hb1.alloc hb1.size _⟩
end Go.Proofs.YtbcbbeenkndgcaaDoor
