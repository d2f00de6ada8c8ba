/-
  NumberSums: a sum less one of its terms is the other one. THE WALK.
-/
import Derived.Test.YtmgjhofecncgnaaLaw03
namespace Go.Proofs.Ytmgjhofecncgnaa
open Go.RowKit
set_option linter.unusedVariables false

set_option maxHeartbeats 400000 in
theorem numberSums_walk (a0 : Int) (lo0 : -9223372036854775808 ≤ a0) (hi0 : a0 ≤ 9223372036854775807) (a1 : Int) (lo1 : -9223372036854775808 ≤ a1) (hi1 : a1 ≤ 9223372036854775807) (w : World) :
    Calls Try.prog 3 #[.int .i64 a0, .int .i64 a1] w fun e w' => e = .returned (.bool true) ∧ Below w.heap.size w w' := by
  by_cases h : -9223372036854775808 ≤ a0 + a1 ∧ a0 + a1 ≤ 9223372036854775807
  · obtain ⟨h5, h6⟩ := h
    have e1 : ((a1 + a0) == (a0 + a1)) = true := by rw [beq_iff_eq]; omega
    have e2 : ((a0 + a1 - a1) == a0) = true := by rw [beq_iff_eq]; omega
    go_enter Try.func3, Try.ntmps3
    go_wp2_with fail
    refine (alive03 w).mono ?_
    rintro e w1 ⟨rfl, hb⟩
    go_wp2_with fail
    refine (add_ok a0 a1 _ lo1 hi1 h5 h6).mono ?_
    rintro e w2 ⟨rfl, rfl⟩
    go_wp2_with (first | (go_at_call 12; refine (add_ok a1 a0 _ lo0 hi0 (by omega) (by omega)).mono ?_; rintro e w2 ⟨rfl, rfl⟩) | (go_at_call 13; go_in))
    go_ret
    exact ⟨rfl, hb⟩
  · go_enter Try.func3, Try.ntmps3
    go_wp2_with fail
    refine (alive03 w).mono ?_
    rintro e w1 ⟨rfl, hb⟩
    go_wp2_with fail
    refine (add_no a0 a1 _ lo0 hi0 lo1 hi1 (by omega)).mono ?_
    rintro e w2 ⟨rfl, rfl⟩
    clear h
    go_wp2
    go_ret
    exact ⟨rfl, hb⟩
end Go.Proofs.Ytmgjhofecncgnaa
