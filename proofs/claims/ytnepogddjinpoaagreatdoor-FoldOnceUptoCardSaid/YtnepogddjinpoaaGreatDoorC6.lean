/-
  PLAIN LAWS of many texts, in one.
-/
import Derived.Test.YtnepogddjinpoaaGreatDoorRefLow
import Derived.Test.YtnepogddjinpoaaGreatDoorC1
import Derived.Test.YtnepogddjinpoaaGreatDoorC3
namespace Go.Proofs.YtnepogddjinpoaaGreatDoor
open Go.RowKit
set_option linter.unusedVariables false
set_option linter.unusedSimpArgs false

end Go.Proofs.YtnepogddjinpoaaGreatDoor

namespace Go.Proofs.YtnepogddjinpoaaGreatDoor
open Go.RowKit
set_option linter.unusedVariables false
set_option linter.unusedSimpArgs false

end Go.Proofs.YtnepogddjinpoaaGreatDoor

namespace Go.Proofs.YtnepogddjinpoaaGreatDoor
open Go.RowKit
set_option linter.unusedVariables false
set_option linter.unusedSimpArgs false

end Go.Proofs.YtnepogddjinpoaaGreatDoor

namespace Go.Proofs.YtnepogddjinpoaaGreatDoor
open Go.RowKit
set_option linter.unusedVariables false
set_option linter.unusedSimpArgs false

theorem arity_kinds (name : List UInt8) (p q : Int) (h : arityB ⟨name.toArray⟩ = (p, q, true)) :
    (p = 1 ∧ q = 1 ∧ name ∈ [[108, 101, 110], [110, 111, 116], [117, 112, 112, 101, 114], [108, 111, 119, 101, 114]]) ∨ (p = 2 ∧ q = 2 ∧ name ∈ [[101, 113], [108, 116], [97, 110, 100], [111, 114], [106, 111, 105, 110], [100, 101, 102, 97, 117, 108, 116], [105, 110, 100, 101, 120]]) ∨ (p = 1 ∧ q = 8 ∧ name = [112, 114, 105, 110, 116]) := by
  unfold arityB at h
  rw [ByteArray.toList_eq] at h
  have e : (⟨name.toArray⟩ : ByteArray).data.toList = name := rfl
  rw [e] at h
  split at h
  · rename_i h1
    injection h with h2 h3
    injection h3 with h3 _
    refine .inl ⟨h2.symm, h3.symm, ?_⟩
    simp only [Bool.or_eq_true, beq_iff_eq] at h1
    simp only [List.mem_cons, List.mem_nil_iff, or_false]
    rcases h1 with ((h1 | h1) | h1) | h1 <;> simp [h1]
  · split at h
    · rename_i h1
      injection h with h2 h3
      injection h3 with h3 _
      refine .inr (.inl ⟨h2.symm, h3.symm, ?_⟩)
      simp only [Bool.or_eq_true, beq_iff_eq] at h1
      simp only [List.mem_cons, List.mem_nil_iff, or_false]
      rcases h1 with (((((h1 | h1) | h1) | h1) | h1) | h1) | h1 <;> simp [h1]
    · split at h
      · rename_i h1
        injection h with h2 h3
        injection h3 with h3 _
        exact .inr (.inr ⟨h2.symm, h3.symm, by simpa using h1⟩)
      · injection h with h2 h3
        injection h3 with h3 h4
        cases h4
end Go.Proofs.YtnepogddjinpoaaGreatDoor
