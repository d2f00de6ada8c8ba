/-
  muslinlaw11.alive.
-/
import Derived.Test.YtbcbbeenkndgcaaDoorVoid
import Derived.Test.YtbcbbeenkndgcaaDoorElem
namespace Go.Proofs.YtbcbbeenkndgcaaDoor
open Go.RowKit
set_option linter.unusedVariables false

set_option maxHeartbeats 1000000 in
set_option maxRecDepth 100000 in
theorem alive11 (w : World) (htab : Lib.TabIs Tryd.prog w "strings.asciiSpace" .u8 Lib.asciiSpaceTab) : Calls Tryd.prog 37 #[] w fun e w' => e = .returned (.bool true) ∧ Below w.heap.size w w' := by
  have c1 := hide (fun w => attribute_any ⟨#[97]⟩ ⟨#[104, 114, 101, 102]⟩ w)
  have c2 := hide (fun w => element_any ⟨#[115, 99, 114, 105, 112, 116]⟩ w)
  have c3 := hide (void_any ⟨#[98, 114]⟩ w htab)
  rw [show attrK (ByteArray.mk #[97]).data.toList (ByteArray.mk #[104, 114, 101, 102]).data.toList = 1 by decide +kernel] at c1
  rw [show elemK (ByteArray.mk #[115, 99, 114, 105, 112, 116]).data.toList = 3 by decide +kernel] at c2
  rw [void_br] at c3
  go_enter Tryd.func37, Tryd.ntmps37
  go_wp2_with (first
    | (go_at_call 36; refine (c1.out _).mono ?_; rintro e w1 ⟨rfl, rfl⟩)
    | (go_at_call 38; refine (c2.out _).mono ?_; rintro e w2 ⟨rfl, rfl⟩)
    | (go_at_call 41; refine (c3.out).mono ?_; rintro e w3 ⟨rfl, hb3⟩))
  go_ret
  exact ⟨rfl, hb3⟩
end Go.Proofs.YtbcbbeenkndgcaaDoor
