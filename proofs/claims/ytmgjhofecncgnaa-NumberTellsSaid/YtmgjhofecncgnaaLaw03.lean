/-
  muslinlaw03: its example.
-/
import Derived.Test.YtmgjhofecncgnaaNumA
import Derived.Test.YtmgjhofecncgnaaPrint
namespace Go.Proofs.Ytmgjhofecncgnaa
open Go.RowKit
set_option linter.unusedVariables false

theorem pInt_m12 : pInt (-12) = [45, 49, 50] := by
  have e : decs 12 = [49, 50] := by rw [decs_big 12 (by omega), decs_small (12 / 10) (by omega)]; decide
  unfold pInt
  rw [if_pos (by omega)]
  show 45 :: decs 12 = _
  rw [e]

set_option maxHeartbeats 400000 in
theorem alive03 (w : World) : Calls Try.prog 11 #[] w fun e w' => e = .returned (.bool true) ∧ Below w.heap.size w w' := by
  have hc := hide (print_any (-12) w (by omega) (by omega))
  have HP := hide pInt_m12
  go_enter Try.func11, Try.ntmps11
  go_wp2_with (first
    | (go_at_call 21; refine (Hid.out hc).mono ?_; rw [HP.out]; rintro e w1 ⟨rfl, hb⟩)
    | (go_at_call 26; refine (within_any _ _ _ _).mono ?_; rintro e w2 ⟨rfl, rfl⟩))
  go_ret
  exact ⟨rfl, hb⟩
end Go.Proofs.Ytmgjhofecncgnaa
