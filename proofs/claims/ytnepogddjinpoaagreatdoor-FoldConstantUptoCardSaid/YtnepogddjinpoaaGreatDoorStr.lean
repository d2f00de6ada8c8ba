/-
  STRINGS put together.
-/
import Derived.Test.YtnepogddjinpoaaGreatDoorProg
import Derived.Test.YtnepogddjinpoaaGreatDoorM1
import Derived.WalkKit
import Derived.Lib.Strings
namespace Go.Proofs.YtnepogddjinpoaaGreatDoor
open Go.RowKit
set_option linter.unusedVariables false

theorem mk_append (a b : List UInt8) : (⟨a.toArray⟩ : ByteArray) ++ (⟨b.toArray⟩ : ByteArray) = ⟨(a ++ b).toArray⟩ := by
  apply ByteArray.ext
  simp

/-- x + y. -/
theorem run_cat (a b : List UInt8) (h : a.length + b.length ≤ 9223372036854775807) (W : World) :
    (binOp .add 9 (.string ⟨a.toArray⟩) (.string ⟨b.toArray⟩)).run Tryz.prog W = .ok (.string ⟨(a ++ b).toArray⟩) W := by
  have h1 : (⟨a.toArray⟩ : ByteArray).size = a.length := by simp [ByteArray.size]
  have h2 : (⟨b.toArray⟩ : ByteArray).size = b.length := by simp [ByteArray.size]
  rw [← mk_append]
  simp only [binOp_string_add, Op.stringOp]
  go_simp
  omega
end Go.Proofs.YtnepogddjinpoaaGreatDoor
