/-
  muslinlaw15.alive.
-/
import Derived.Test.YtlandmahjdaphaaDoorFeed
import Derived.Test.YtlandmahjdaphaaDoorRead5b
namespace Go.Proofs.YtlandmahjdaphaaDoor
open Go.RowKit
set_option linter.unusedVariables false
set_option linter.unusedSimpArgs false

theorem feed5 (w : World) (ht : Lib.TabIs Tryd.prog w "strings.asciiSpace" .u8 Lib.asciiSpaceTab) :
    Calls Tryd.prog 9 #[.int .i64 0, .string ⟨#[]⟩, .string ⟨#[120, 32, 61, 32, 34]⟩] w fun e w' => e = .returned (.tuple #[.int .i64 2, .string ⟨#[]⟩]) ∧ Below w.heap.size w w' := by
  have h := feed_any (0, []) [120, 32, 61, 32, 34] w (by decide) (by decide) (by decide) ht
  rw [show feedB (0, []) [120, 32, 61, 32, 34] = (2, []) by decide +kernel] at h
  exact h
set_option maxHeartbeats 1000000 in
theorem alive15 (w : World) (ht : Lib.TabIs Tryd.prog w "strings.asciiSpace" .u8 Lib.asciiSpaceTab) : Calls Tryd.prog 8 #[] w fun e w' => e = .returned (.bool true) ∧ Below w.heap.size w w' := by
  go_enter Tryd.func8, Tryd.ntmps8
  go_wp2_with fail
  refine (feed5 _ ht).mono ?_
  rintro e w1 ⟨rfl, hb1⟩
  go_wp2_with (go_at_call 16; refine (literal5 _).mono ?_; rintro e w2 ⟨rfl, hb2⟩)
  go_ret
  exact ⟨rfl, below_step hb1 hb2⟩
theorem spc_keep {w w' : World} (ht : Lib.TabIs Tryd.prog w "strings.asciiSpace" .u8 Lib.asciiSpaceTab) (hb : Below w.heap.size w w') : Lib.TabIs Tryd.prog w' "strings.asciiSpace" .u8 Lib.asciiSpaceTab := tabs_below gSpace ht hb
end Go.Proofs.YtlandmahjdaphaaDoor
