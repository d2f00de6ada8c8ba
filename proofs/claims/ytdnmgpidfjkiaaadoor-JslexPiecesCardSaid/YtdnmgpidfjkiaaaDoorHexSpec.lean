/-
  PLAIN LAWS: digits of base 16.
-/
import Derived.Test.YtdnmgpidfjkiaaaDoorOctSpec
import Derived.Test.YtdnmgpidfjkiaaaDoorParseSpec
import Derived.Lib.Bytealg
namespace Go.Proofs.YtdnmgpidfjkiaaaDoor
set_option linter.unusedVariables false

def hexd (d : Nat) : UInt8 := if d < 10 then UInt8.ofNat (48 + d) else UInt8.ofNat (87 + d)
def hexText : List UInt8 := [48, 49, 50, 51, 52, 53, 54, 55, 56, 57, 97, 98, 99, 100, 101, 102]
theorem hexText_at (d : Nat) (h : d < 16) : hexText[d]? = some (hexd d) := by
  revert h; revert d; decide
theorem hexText_cut (d : Nat) (h : d < 16) : (hexText.drop d).take (d + 1 - d) = [hexd d] := by
  revert h; revert d; decide
/-- The k lowest digits. -/
def hexs (u : Nat) : Nat → List UInt8
  | 0 => []
  | k + 1 => hexd (u / 16 ^ k % 16) :: hexs u k
theorem hexs_length (u k : Nat) : (hexs u k).length = k := by
  induction k with
  | zero => rfl
  | succ k ih => simp only [hexs, List.length_cons, ih]
/-- What octets.Hex answers. -/
def hexU (n : Int) : Nat := (n % 18446744073709551616).toNat
def hexSize (size : Int) : Nat := (min (max size 0) 16).toNat
def pHex (n size : Int) : List UInt8 := hexs (hexU n) (hexSize size)
theorem hexSize_le (s : Int) : hexSize s ≤ 16 := by unfold hexSize; omega
theorem hexU_lt (n : Int) : hexU n ≤ 18446744073709551615 := by unfold hexU; omega

/-- A digit's worth; -1: it is none. -/
def hexV (c : UInt8) : Int := if 48 ≤ c.toNat ∧ c.toNat ≤ 57 then (c.toNat : Int) - 48 else if 97 ≤ c.toNat ∧ c.toNat ≤ 102 then (c.toNat : Int) - 87 else if 65 ≤ c.toNat ∧ c.toNat ≤ 70 then (c.toNat : Int) - 55 else -1
theorem hexV_index (c : UInt8) : Lib.indexByte hexText (smallB c) = hexV c := by
  have := allBytes (fun c => Lib.indexByte hexText (smallB c) == hexV c) (by decide +kernel) c
  simpa using this
theorem hexV_range (c : UInt8) : -1 ≤ hexV c ∧ hexV c ≤ 15 := by
  have := allBytes (fun c => decide (-1 ≤ hexV c ∧ hexV c ≤ 15)) (by decide +kernel) c
  simpa using this
def hexFrom (n : Nat) (l : List UInt8) : Nat := l.foldl (fun n c => n * 16 + (hexV c).toNat) n
theorem hexFrom_nil (n : Nat) : hexFrom n [] = n := rfl
theorem hexFrom_cons (n : Nat) (c : UInt8) (r : List UInt8) : hexFrom n (c :: r) = hexFrom (n * 16 + (hexV c).toNat) r := by unfold hexFrom; rw [List.foldl_cons]
theorem hexFrom_append (n : Nat) (a b : List UInt8) : hexFrom n (a ++ b) = hexFrom (hexFrom n a) b := by unfold hexFrom; rw [List.foldl_append]
theorem hexFrom_lt (l : List UInt8) : ∀ n, hexFrom n l < (n + 1) * 16 ^ l.length := by
  induction l with
  | nil => intro n; rw [hexFrom_nil]; simp
  | cons c r ih =>
    intro n
    have hc := hexV_range c
    rw [hexFrom_cons, List.length_cons, Nat.pow_succ]
    have h1 := ih (n * 16 + (hexV c).toNat)
    have h2 : (n * 16 + (hexV c).toNat + 1) * 16 ^ r.length ≤ ((n + 1) * 16) * 16 ^ r.length := Nat.mul_le_mul_right _ (by omega)
    have h3 : ((n + 1) * 16) * 16 ^ r.length = (n + 1) * (16 ^ r.length * 16) := by rw [Nat.mul_assoc, Nat.mul_comm 16]
    omega
def isHex (c : UInt8) : Bool := decide (0 ≤ hexV c)
/-- What octets.Unhex answers. -/
def pUnhex (l : List UInt8) : Int × Int :=
  if l = [] then (0, 8) else if 8 < l.length then (0, 5) else if l.all isHex then ((hexFrom 0 l : Int), 0) else (0, 33)

/-- What holds at the head of both loops. -/
def HexRel (l : List UInt8) (k n : Nat) : Prop := (l.take k).all isHex = true ∧ n = hexFrom 0 (l.take k)
theorem HexRel.next {l : List UInt8} {k n : Nat} {c : UInt8} (h : HexRel l k n) (hc : l[k]? = some c) (hv : 0 ≤ hexV c) : HexRel l (k + 1) (n * 16 + (hexV c).toNat) := by
  unfold HexRel at *
  rw [List.take_add_one, hc, Option.toList_some, hexFrom_append, ← h.2, hexFrom_cons, hexFrom_nil, List.all_append, h.1]
  simp [isHex, hv]
theorem HexRel.lt {l : List UInt8} {k n : Nat} (h : HexRel l k n) (hk : k ≤ 7) : n < 268435456 := by
  have h2 := hexFrom_lt (l.take k) 0
  rw [← h.2] at h2
  have h3 : 16 ^ (l.take k).length ≤ 16 ^ 7 := Nat.pow_le_pow_right (by omega) (by rw [List.length_take]; omega)
  omega
theorem HexRel.bad {l : List UInt8} {k n : Nat} {c : UInt8} (h : HexRel l k n) (h1 : l ≠ []) (h2 : ¬ 8 < l.length) (hc : l[k]? = some c) (hv : hexV c < 0) : pUnhex l = (0, 33) := by
  unfold pUnhex
  rw [if_neg h1, if_neg h2, if_neg]
  intro ha
  have := List.all_eq_true.1 ha c (List.mem_of_getElem? hc)
  simp [isHex] at this
  omega
theorem HexRel.end_ {l : List UInt8} {k n : Nat} (h : HexRel l k n) (h1 : l ≠ []) (h2 : ¬ 8 < l.length) (hk : l.length ≤ k) : pUnhex l = ((n : Int), 0) := by
  unfold HexRel at h
  rw [List.take_of_length_le hk] at h
  unfold pUnhex
  rw [if_neg h1, if_neg h2, if_pos h.1, ← h.2]
end Go.Proofs.YtdnmgpidfjkiaaaDoor
