/-
  muslinref01.Lower.
-/
import Derived.Test.YtnepogddjinpoaaGreatDoorOct
import Derived.OwnWalk
import Derived.Deep.OwnRows
namespace Go.Proofs.YtnepogddjinpoaaGreatDoor
open Go.RowKit
set_option linter.unusedVariables false
set_option linter.unusedSimpArgs false

theorem info_octL : (Tryz.prog.info? 5).map (fun i => (i.zero, i.size, i.bytes)) = some (some (.int .u8 0), 1, 1) := by kernel_rfl
theorem conv_ownL {w : World} {base n : Nat} {v : Value} {l : List UInt8} (h : w.ownsRow base 5 1 v n (bv l)) : (convert 119 9 v).run Tryz.prog w = .ok (.string ⟨l.toArray⟩) w := by
  have h2 := h
  rcases h.2 with ⟨rfl, rfl⟩ | ⟨g, cap, cur, rfl, _⟩
  · exact conv_str 119 9 5 Tryz.underlying119 Tryz.underlying5 Tryz.underlying9 (Reads.of_own h2)
  · exact conv_str 119 9 5 Tryz.underlying119 Tryz.underlying5 Tryz.underlying9 (Reads.of_own h2)
end Go.Proofs.YtnepogddjinpoaaGreatDoor
