/-
  PLAIN LAWS of many texts, in one.
-/
import Derived.Test.YtnepogddjinpoaaGreatDoorOwnNode
import Derived.Test.YtnepogddjinpoaaGreatDoorM1
namespace Go.Proofs.YtnepogddjinpoaaGreatDoor
open Go.RowKit
set_option linter.unusedVariables false
set_option linter.unusedSimpArgs false

abbrev vCells (k i : Int) (s : ByteArray) (a : Option Addr) (n c : Nat) (a2 : Option Addr) (n2 c2 : Nat) : Array Value := #[.int .i64 k, .int .i64 i, .string s, .slice a n c, .slice a2 n2 c2]
abbrev vFlat (k i : Int) (s : ByteArray) : Value := .agg (vCells k i s none 0 0 none 0 0)
/-- Is a value true? By its kind, number, text and how many parts it has. -/
def truthC (k i : Int) (s : ByteArray) (n : Nat) : Bool :=
  if k = 0 then false else if k = 1 then false else if k = 2 then true else if k = 3 then i != 0 else if k = 5 then decide (0 < n) else if k = 6 then decide (0 < n) else !s.toList.isEmpty
/-- How long a value is, and the error. -/
def lenC (k : Int) (s : ByteArray) (n : Nat) : Int × Int := if k = 5 ∨ k = 6 then ((n : Int), 0) else if k = 4 ∨ 7 ≤ k then ((s.size : Int), 0) else (0, 13)
def arityB (s : ByteArray) : Int × Int × Bool :=
  if s.toList == [108, 101, 110] || s.toList == [110, 111, 116] || s.toList == [117, 112, 112, 101, 114] || s.toList == [108, 111, 119, 101, 114] then (1, 1, true)
  else if s.toList == [101, 113] || s.toList == [108, 116] || s.toList == [97, 110, 100] || s.toList == [111, 114] || s.toList == [106, 111, 105, 110] || s.toList == [100, 101, 102, 97, 117, 108, 116] || s.toList == [105, 110, 100, 101, 120] then (2, 2, true)
  else if s.toList == [112, 114, 105, 110, 116] then (1, 8, true) else (0, 0, false)
end Go.Proofs.YtnepogddjinpoaaGreatDoor

namespace Go.Proofs.YtnepogddjinpoaaGreatDoor
open Go.RowKit
set_option linter.unusedVariables false
set_option linter.unusedSimpArgs false

/-- A text as a value, or none where it is too long; and the error. -/
def madeV (s : ByteArray) : Value := if 4096 < s.size then vFlat 0 0 ⟨#[]⟩ else vFlat 4 0 s
def madeE (s : ByteArray) : Int := if 4096 < s.size then 5 else 0
end Go.Proofs.YtnepogddjinpoaaGreatDoor

namespace Go.Proofs.YtnepogddjinpoaaGreatDoor
open Go.RowKit
set_option linter.unusedVariables false
set_option linter.unusedSimpArgs false

end Go.Proofs.YtnepogddjinpoaaGreatDoor

namespace Go.Proofs.YtnepogddjinpoaaGreatDoor
open Go.RowKit
set_option linter.unusedVariables false
set_option linter.unusedSimpArgs false

end Go.Proofs.YtnepogddjinpoaaGreatDoor

namespace Go.Proofs.YtnepogddjinpoaaGreatDoor
open Go.RowKit
set_option linter.unusedVariables false
set_option linter.unusedSimpArgs false

end Go.Proofs.YtnepogddjinpoaaGreatDoor

namespace Go.Proofs.YtnepogddjinpoaaGreatDoor
open Go.RowKit
set_option linter.unusedVariables false
set_option linter.unusedSimpArgs false

end Go.Proofs.YtnepogddjinpoaaGreatDoor
