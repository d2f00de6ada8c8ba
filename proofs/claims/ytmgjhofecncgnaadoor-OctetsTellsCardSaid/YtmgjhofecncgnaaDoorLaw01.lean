/-
  muslinlaw01: its example.
-/
import Derived.Test.YtmgjhofecncgnaaDoorHex
import Derived.Test.YtmgjhofecncgnaaDoorFuncB
namespace Go.Proofs.YtmgjhofecncgnaaDoor
open Go.RowKit
set_option linter.unusedVariables false

theorem pHex_255 : pHex 255 4 = [48, 48, 102, 102] := by decide
theorem isName_a1 : isName [97, 95, 49] = true := by decide
set_option maxHeartbeats 400000 in
theorem alive01 (w : World) : Calls Tryd.prog 19 #[] w fun e w' => e = .returned (.bool true) ∧ Below w.heap.size w w' := by
  have cH := fun w => hex_any 255 4 w (by omega) (by omega)
  rw [pHex_255] at cH
  have cN := fun w => name_any ⟨#[97, 95, 49]⟩ w (by decide)
  rw [show isName (ByteArray.mk #[97, 95, 49]).data.toList = true from isName_a1] at cN
  have cB := fun w => blank_any 32 w
  rw [show isBlank 32 = true by decide] at cB
  have cH := hide cH; have cN := hide cN; have cB := hide cB
  go_enter Tryd.func19, Tryd.ntmps19
  go_wp2_with (first
    | (go_at_call 28; refine (cH.out _).mono ?_; rintro e w1 ⟨rfl, hb⟩)
    | (go_at_call 13; refine (cN.out _).mono ?_; rintro e w2 ⟨rfl, hb2⟩)
    | (go_at_call 5; refine (cB.out _).mono ?_; rintro e w3 ⟨rfl, rfl⟩))
  go_ret
  exact ⟨rfl, below_step hb hb2⟩
end Go.Proofs.YtmgjhofecncgnaaDoor
