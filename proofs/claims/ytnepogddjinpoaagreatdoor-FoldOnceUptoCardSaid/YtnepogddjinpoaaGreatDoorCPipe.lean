/-
  The page's Pipe, at any pipeline and environment: pipeR.
-/
import Derived.Test.YtnepogddjinpoaaGreatDoorC3
import Derived.Test.YtnepogddjinpoaaGreatDoorC5
import Derived.Test.YtnepogddjinpoaaGreatDoorC4
import Derived.Test.YtnepogddjinpoaaGreatDoorC6
namespace Go.Proofs.YtnepogddjinpoaaGreatDoor
open Go.RowKit
set_option linter.unusedVariables false
set_option linter.unusedSimpArgs false

theorem goods {l : List CallD} (hm : sumBy massC l ≤ 1048576) (hn : ∀ x ∈ l, numC x) : ∀ c ∈ l, ∀ a ∈ c.args, GoodA a := by
  intro c hc a ha
  have h1 := sumBy_mem massC l c hc
  have h2 : sumBy massA c.args + 1 ≤ massC c := by unfold massC; omega
  have h3 := sumBy_mem massA c.args a ha
  have h4 : a.s.length + 1 ≤ massA a := by unfold massA; omega
  exact ⟨hn c hc a ha, by omega⟩
theorem args_one {n : Nat} (e : EnvD n) (a : ArgD) (l : List ArgD) : argsR e (a :: l) = (match argR e a with | (some v, 0) => (match argsR e l with | (some l, 0) => (some (v :: l), 0) | (_, f) => (none, f)) | (_, f) => (none, f)) := rfl
theorem from_step {n : Nat} {e : EnvD n} {c : CallD} {r : List CallD} {last : Option (VD n)} {y : VD n} (h : stepR e c last = (some y, 0)) : pipeFrom e (c :: r) last = pipeFrom e r (some y) := by
  show (match stepR e c last with | (some v, 0) => pipeFrom e r (some v) | (_, f) => (none, f)) = _
  rw [h]
  rfl
theorem from_err {n : Nat} {e : EnvD n} {c : CallD} {r : List CallD} {last : Option (VD n)} {f : Int} (h : stepR e c last = (none, f)) : pipeFrom e (c :: r) last = (none, f) := by
  show (match stepR e c last with | (some v, 0) => pipeFrom e r (some v) | (_, f) => (none, f)) = _
  rw [h]
/-- What stands alone. -/
def lone {n : Nat} (l : List (VD n)) : ResD n := match l with | [v] => (some v, 0) | _ => (none, 9)
theorem step_args {n : Nat} {e : EnvD n} {c : CallD} {last : Option (VD n)} {xs : List (VD n)} (h : argsR e c.args = (some xs, 0)) : stepR e c last = (if c.nm ≠ [] then callR c.nm (xs ++ last.toList) else lone (xs ++ last.toList)) := by
  unfold stepR
  rw [h]
  rfl
end Go.Proofs.YtnepogddjinpoaaGreatDoor
