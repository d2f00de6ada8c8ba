/-
  PLAIN LAWS: percent signs.
-/
import Derived.Test.YtdnmgpidfjkiaaaDoorHexSpec
namespace Go.Proofs.YtdnmgpidfjkiaaaDoor
set_option linter.unusedVariables false

def unresB (c : UInt8) : Bool := isLetter c || (isDig c || (c.toNat == 45 || (c.toNat == 46 || (c.toNat == 95 || c.toNat == 126))))
def resL : List UInt8 := [33, 35, 36, 38, 42, 43, 44, 47, 58, 59, 61, 63, 64, 91, 93]
def resB (c : UInt8) : Bool := resL.any (· == c)
def hexB (c : UInt8) : Bool := isDig c || ([97, 98, 99, 100, 101, 102, 65, 66, 67, 68, 69, 70] : List UInt8).any (· == c)
theorem hexB_V (c : UInt8) : hexB c = decide (0 ≤ hexV c) := by
  have := allBytes (fun c => hexB c == decide (0 ≤ hexV c)) (by decide +kernel) c
  simpa using this
/-- Does a % with two digits stand at the head? -/
def codedB : List UInt8 → Bool
  | c :: a :: b :: _ => c == 37 && (hexB a && hexB b)
  | _ => false
def pct2 (c : UInt8) : List UInt8 := 37 :: pHex (c.toNat : Int) 2
theorem pHex2_len (n : Int) : (pHex n 2).length = 2 := by unfold pHex; rw [hexs_length]; rfl
def keepB (nm : Bool) (c : UInt8) (r : List UInt8) : Bool := unresB c || (nm && (resB c || codedB (c :: r)))
def pctR (nm : Bool) : List UInt8 → List UInt8
  | [] => []
  | c :: r => (if keepB nm c r then [c] else pct2 c) ++ pctR nm r
theorem pctR_len (nm : Bool) (l : List UInt8) : (pctR nm l).length ≤ 3 * l.length := by
  induction l with
  | nil => simp [pctR]
  | cons c r ih =>
    simp only [pctR, List.length_append, List.length_cons]
    split
    · simp; omega
    · simp [pct2, pHex2_len]; omega
end Go.Proofs.YtdnmgpidfjkiaaaDoor
