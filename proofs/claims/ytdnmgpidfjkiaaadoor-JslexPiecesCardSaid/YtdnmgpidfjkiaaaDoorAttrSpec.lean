/-
  PLAIN LAWS: attributes' kinds.
-/
import Derived.Test.YtdnmgpidfjkiaaaDoorDec
import Derived.Lib.Strings
namespace Go.Proofs.YtdnmgpidfjkiaaaDoor
set_option linter.unusedVariables false

/-- A list of texts that an attribute is held against, one by one. -/
def isOneOf (a : List UInt8) : List (List UInt8) → Bool
  | [] => false
  | x :: r => (a == x) || isOneOf a r
def urlAttrs : List (List UInt8) := [[104, 114, 101, 102], [115, 114, 99], [97, 99, 116, 105, 111, 110], [102, 111, 114, 109, 97, 99, 116, 105, 111, 110], [99, 105, 116, 101], [112, 111, 115, 116, 101, 114], [98, 97, 99, 107, 103, 114, 111, 117, 110, 100], [108, 111, 110, 103, 100, 101, 115, 99], [109, 97, 110, 105, 102, 101, 115, 116], [105, 99, 111, 110]]
def barredAttrs : List (List UInt8) := [[115, 114, 99, 100, 111, 99], [115, 114, 99, 115, 101, 116], [104, 116, 116, 112, 45, 101, 113, 117, 105, 118], [112, 105, 110, 103], []]
/-- What tables.Attribute answers. -/
def attrK (e a : List UInt8) : Int :=
  if isOneOf a urlAttrs then 1
  else if a == [100, 97, 116, 97] then (if e == [111, 98, 106, 101, 99, 116] then 1 else 0)
  else if a == [115, 116, 121, 108, 101] then 3
  else if isOneOf a barredAttrs then 4
  else if Lib.hasPrefix a [111, 110] then 2
  else if Lib.hasPrefix a [120, 109, 108, 110, 115] then 4
  else 0
theorem attrK_range (e a : List UInt8) : 0 ≤ attrK e a ∧ attrK e a ≤ 4 := by
  unfold attrK
  repeat' split
  all_goals omega
end Go.Proofs.YtdnmgpidfjkiaaaDoor
