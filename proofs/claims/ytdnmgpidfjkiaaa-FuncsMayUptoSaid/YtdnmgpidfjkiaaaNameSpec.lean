/-
  PLAIN LAWS: what a name is.
-/
import Derived.Test.YtdnmgpidfjkiaaaOctSpec
import Derived.Test.YtdnmgpidfjkiaaaParseSpec
namespace Go.Proofs.Ytdnmgpidfjkiaaa
set_option linter.unusedVariables false

/-- What no name holds. -/
def notName (c : UInt8) : Bool := !isLetter c && !(c.toNat == 95) && !isDig c
/-- Is it a name? -/
def isName (l : List UInt8) : Bool := match l with
  | [] => false
  | c :: r => decide (r.length < 32) && !isDig c && !(c :: r).any notName
theorem isName_cons (c : UInt8) (r : List UInt8) : isName (c :: r) = (decide (r.length < 32) && !isDig c && !(c :: r).any notName) := rfl
end Go.Proofs.Ytdnmgpidfjkiaaa
