/-
  STRINGS put together.
-/
import Derived.Test.YtnepogddjinpoaaGreatDoorProg
import Derived.Test.YtnepogddjinpoaaGreatDoorM1
import Derived.WalkKit
import Derived.Lib.Strings
namespace Go.Proofs.YtnepogddjinpoaaGreatDoor
open Go.RowKit
set_option linter.unusedVariables false

theorem mk_append (a b : List UInt8) : (⟨a.toArray⟩ : ByteArray) ++ (⟨b.toArray⟩ : ByteArray) = ⟨(a ++ b).toArray⟩ := by
  apply ByteArray.ext
  simp

end Go.Proofs.YtnepogddjinpoaaGreatDoor
