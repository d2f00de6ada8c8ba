/-
  OctetsHex: any number's digits, and any text as a number, are as the page says. THE WALK.
-/
import Derived.Test.YtmgjhofecncgnaaLaw01
import Derived.Test.YtmgjhofecncgnaaRefHex
import Derived.Test.YtmgjhofecncgnaaUnhex
namespace Go.Proofs.Ytmgjhofecncgnaa
open Go.RowKit
set_option linter.unusedVariables false

set_option maxHeartbeats 1000000 in
theorem octetsHex_walk (a0 : Int) (lo0 : -9223372036854775808 ≤ a0) (hi0 : a0 ≤ 9223372036854775807) (a1 : Int) (lo1 : -9223372036854775808 ≤ a1) (hi1 : a1 ≤ 9223372036854775807) (a2 : ByteArray) (s2 : a2.size ≤ 140737488351232) (w : World) :
    Calls Try.prog 4 #[.int .i64 a0, .int .i64 a1, .string a2] w fun e w' => e = .returned (.bool true) ∧ Below w.heap.size w w' := by
  have cU := fun w => unhex_any a2 w (by omega)
  have cR := fun w => refUnhex_any a2 w (by omega)
  generalize pUnhex a2.data.toList = q at cU cR
  obtain ⟨k, f⟩ := q
  dsimp only at cU cR
  have cU := hide cU; have cR := hide cR
  have cH := fun w => hex_any a0 a1 w lo1 hi1
  have cI := fun w => refHex_any a0 a1 w lo1 hi1
  generalize pHex a0 a1 = p at cH cI
  have cH := hide cH; have cI := hide cI
  clear s2 lo0 hi0 lo1 hi1
  go_enter Try.func4, Try.ntmps4
  go_wp2_with (first
    | (go_at_call 14; refine (cU.out _).mono ?_; rintro e w1 ⟨rfl, hb1⟩)
    | (go_at_call 15; refine (cR.out _).mono ?_; rintro e w2 ⟨rfl, rfl⟩)
    | (go_at_call 16; refine (cH.out _).mono ?_; rintro e w2 ⟨rfl, hb2⟩)
    | (go_at_call 17; refine (cI.out _).mono ?_; rintro e w3 ⟨rfl, rfl⟩)
    | (go_at_call 18; go_in)
    | (go_at_call 19; refine (alive01 _).mono ?_; rintro e w3 ⟨rfl, hb3⟩))
  go_ret
  exact ⟨rfl, below_step (below_step hb1 hb2) hb3⟩
end Go.Proofs.Ytmgjhofecncgnaa
