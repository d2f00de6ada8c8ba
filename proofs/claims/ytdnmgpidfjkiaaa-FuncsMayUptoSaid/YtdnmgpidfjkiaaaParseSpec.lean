/-
  PLAIN LAWS: what number.Parse answers.
-/
import Derived.Test.YtdnmgpidfjkiaaaDec
namespace Go.Proofs.Ytdnmgpidfjkiaaa
set_option linter.unusedVariables false

def isDig (c : UInt8) : Bool := decide (48 ≤ c.toNat) && decide (c.toNat ≤ 57)
/-- A text of digits as a number, from a start on. -/
def valFrom (n : Nat) (l : List UInt8) : Nat := l.foldl (fun n c => n * 10 + (c.toNat - 48)) n
theorem valFrom_nil (n : Nat) : valFrom n [] = n := rfl
theorem valFrom_cons (n : Nat) (c : UInt8) (r : List UInt8) : valFrom n (c :: r) = valFrom (n * 10 + (c.toNat - 48)) r := by unfold valFrom; rw [List.foldl_cons]
theorem valFrom_append (n : Nat) (a b : List UInt8) : valFrom n (a ++ b) = valFrom (valFrom n a) b := by unfold valFrom; rw [List.foldl_append]
theorem valFrom_le (n : Nat) (a : List UInt8) : n ≤ valFrom n a := by
  induction a generalizing n with
  | nil => rw [valFrom_nil]; exact Nat.le_refl _
  | cons c r ih => rw [valFrom_cons]; exact Nat.le_trans (by omega) (ih _)
/-- A number's text: its sign, and the rest. -/
def cutDash (l : List UInt8) : List UInt8 × Bool := match l with
  | 45 :: r => (r, true)
  | _ => (l, false)
/-- What is told of the rest. -/
def pParseT (t : List UInt8) (below : Bool) : Int × Int :=
  if t = [] then (0, 8)
  else if !t.all isDig then (0, 33)
  else if t.head? = some 48 ∧ (below = true ∨ 1 < t.length) then (0, 33)
  else if below then (if valFrom 0 t ≤ 9223372036854775808 then (-(valFrom 0 t : Int), 0) else (0, 4))
  else (if valFrom 0 t < 9223372036854775808 then ((valFrom 0 t : Int), 0) else (0, 4))
def pParse (l : List UInt8) : Int × Int := pParseT (cutDash l).1 (cutDash l).2
end Go.Proofs.Ytdnmgpidfjkiaaa
