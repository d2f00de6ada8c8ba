/-
  tables.Attribute; strings.HasPrefix.
-/
import Derived.Test.YtdnmgpidfjkiaaaDoorProg
import Derived.Test.YtdnmgpidfjkiaaaDoorM1
import Derived.WalkKit
import Derived.WalkSpells
import Derived.WalkLawsBesides
import Derived.Deep.RegionWith
namespace Go.Proofs.YtdnmgpidfjkiaaaDoor
open Go.RowKit
set_option linter.unusedVariables false

set_option maxHeartbeats 400000 in
theorem hasPrefix_any (s p : ByteArray) (w : World) : Calls Tryd.prog 59 #[.string s, .string p] w fun e w' => e = .returned (.bool (Lib.hasPrefix s.data.toList p.data.toList)) ∧ w = w' := by
  rw [← Lib.hasPrefix_raw]
  by_cases h : (p.size : Int) ≤ (s.size : Int)
  · have h' : decide (p.size ≤ s.size) = true := by simp; omega
    rw [h']
    obtain ⟨b, hb⟩ : ∃ b, ((s.extract 0 p.size).toList == p.toList) = b := ⟨_, rfl⟩
    rw [hb]
    clear h'
    go_enter Tryd.func59, Tryd.ntmps59
    go_wp2
    go_ret
    exact ⟨rfl, rfl⟩
  · have h' : decide (p.size ≤ s.size) = false := by simp; omega
    rw [h']
    have h2 : decide ((p.size : Int) ≤ (s.size : Int)) = false := by simpa using h
    have h3 : (s.size : Int) < (p.size : Int) := by omega
    clear h h'
    go_enter Tryd.func59, Tryd.ntmps59
    go_wp2
    go_ret
    exact ⟨rfl, rfl⟩

end Go.Proofs.YtdnmgpidfjkiaaaDoor
