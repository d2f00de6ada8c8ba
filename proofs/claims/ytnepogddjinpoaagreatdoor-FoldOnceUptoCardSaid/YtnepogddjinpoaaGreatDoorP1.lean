/-
  PLAIN LAWS of many texts, in one.
-/
import Derived.Test.YtnepogddjinpoaaGreatDoorM1
import Derived.Lib.Bytealg
import Derived.Test.YtnepogddjinpoaaGreatDoorM2
namespace Go.Proofs.YtnepogddjinpoaaGreatDoor
set_option linter.unusedVariables false

/-- What stands ahead of an octet, and behind it; is it there? -/
def cutB (c : UInt8) : List UInt8 → List UInt8 × List UInt8 × Bool
  | [] => ([], [], false)
  | x :: l => if x == c then ([], l, true) else (x :: (cutB c l).1, (cutB c l).2.1, (cutB c l).2.2)
theorem cutB_idx (c : UInt8) (l : List UInt8) : (Lib.indexByte l c = -1 ∧ cutB c l = (l, [], false)) ∨
    (∃ k : Nat, Lib.indexByte l c = (k : Int) ∧ k < l.length ∧ cutB c l = (l.take k, l.drop (k + 1), true)) := by
  induction l with
  | nil => left; exact ⟨rfl, rfl⟩
  | cons x l ih =>
    unfold cutB Lib.indexByte
    by_cases hx : x == c
    · rw [if_pos hx, if_pos hx]
      right; exact ⟨0, rfl, by simp, by simp⟩
    · rw [if_neg hx, if_neg hx]
      rcases ih with ⟨h1, h2⟩ | ⟨k, h1, h2, h3⟩
      · left; rw [h1, h2]; exact ⟨rfl, rfl⟩
      · right
        refine ⟨k + 1, ?_, by simp; omega, ?_⟩
        · rw [h1, if_neg (by simp)]; simp
        · rw [h3]; simp
/-- Does an octet end what may be a scheme? -/
def ender (c : UInt8) : Bool := c.toNat == 47 || c.toNat == 63 || c.toNat == 35
def schemeB (l : List UInt8) : List UInt8 × Bool :=
  if (cutB 58 l).2.2 && !(cutB 58 l).1.any ender then ((cutB 58 l).1.map smallB, true) else ([], false)
end Go.Proofs.YtnepogddjinpoaaGreatDoor

namespace Go.Proofs.YtnepogddjinpoaaGreatDoor
set_option linter.unusedVariables false

def hexd (d : Nat) : UInt8 := if d < 10 then UInt8.ofNat (48 + d) else UInt8.ofNat (87 + d)
def hexText : List UInt8 := [48, 49, 50, 51, 52, 53, 54, 55, 56, 57, 97, 98, 99, 100, 101, 102]
theorem hexText_at (d : Nat) (h : d < 16) : hexText[d]? = some (hexd d) := by
  revert h; revert d; decide
/-- The k lowest digits. -/
def hexs (u : Nat) : Nat → List UInt8
  | 0 => []
  | k + 1 => hexd (u / 16 ^ k % 16) :: hexs u k
theorem hexs_length (u k : Nat) : (hexs u k).length = k := by
  induction k with
  | zero => rfl
  | succ k ih => simp only [hexs, List.length_cons, ih]
/-- What octets.Hex answers. -/
def hexU (n : Int) : Nat := (n % 18446744073709551616).toNat
def hexSize (size : Int) : Nat := (min (max size 0) 16).toNat
def pHex (n size : Int) : List UInt8 := hexs (hexU n) (hexSize size)
theorem hexSize_le (s : Int) : hexSize s ≤ 16 := by unfold hexSize; omega
theorem hexU_lt (n : Int) : hexU n ≤ 18446744073709551615 := by unfold hexU; omega

/-- A digit's worth; -1: it is none. -/
def hexV (c : UInt8) : Int := if 48 ≤ c.toNat ∧ c.toNat ≤ 57 then (c.toNat : Int) - 48 else if 97 ≤ c.toNat ∧ c.toNat ≤ 102 then (c.toNat : Int) - 87 else if 65 ≤ c.toNat ∧ c.toNat ≤ 70 then (c.toNat : Int) - 55 else -1
theorem hexV_index (c : UInt8) : Lib.indexByte hexText (smallB c) = hexV c := by
  have := allBytes (fun c => Lib.indexByte hexText (smallB c) == hexV c) (by decide +kernel) c
  simpa using this
theorem hexV_range (c : UInt8) : -1 ≤ hexV c ∧ hexV c ≤ 15 := by
  have := allBytes (fun c => decide (-1 ≤ hexV c ∧ hexV c ≤ 15)) (by decide +kernel) c
  simpa using this
def hexFrom (n : Nat) (l : List UInt8) : Nat := l.foldl (fun n c => n * 16 + (hexV c).toNat) n
theorem hexFrom_nil (n : Nat) : hexFrom n [] = n := rfl
theorem hexFrom_cons (n : Nat) (c : UInt8) (r : List UInt8) : hexFrom n (c :: r) = hexFrom (n * 16 + (hexV c).toNat) r := by unfold hexFrom; rw [List.foldl_cons]
theorem hexFrom_append (n : Nat) (a b : List UInt8) : hexFrom n (a ++ b) = hexFrom (hexFrom n a) b := by unfold hexFrom; rw [List.foldl_append]
theorem hexFrom_lt (l : List UInt8) : ∀ n, hexFrom n l < (n + 1) * 16 ^ l.length := by
  induction l with
  | nil => intro n; rw [hexFrom_nil]; simp
  | cons c r ih =>
    intro n
    have hc := hexV_range c
    rw [hexFrom_cons, List.length_cons, Nat.pow_succ]
    have h1 := ih (n * 16 + (hexV c).toNat)
    have h2 : (n * 16 + (hexV c).toNat + 1) * 16 ^ r.length ≤ ((n + 1) * 16) * 16 ^ r.length := Nat.mul_le_mul_right _ (by omega)
    have h3 : ((n + 1) * 16) * 16 ^ r.length = (n + 1) * (16 ^ r.length * 16) := by rw [Nat.mul_assoc, Nat.mul_comm 16]
    omega
def isHex (c : UInt8) : Bool := decide (0 ≤ hexV c)
/-- What octets.Unhex answers. -/
def pUnhex (l : List UInt8) : Int × Int :=
  if l = [] then (0, 8) else if 8 < l.length then (0, 5) else if l.all isHex then ((hexFrom 0 l : Int), 0) else (0, 33)

/-- What holds at the head of both loops. -/
def HexRel (l : List UInt8) (k n : Nat) : Prop := (l.take k).all isHex = true ∧ n = hexFrom 0 (l.take k)
theorem HexRel.next {l : List UInt8} {k n : Nat} {c : UInt8} (h : HexRel l k n) (hc : l[k]? = some c) (hv : 0 ≤ hexV c) : HexRel l (k + 1) (n * 16 + (hexV c).toNat) := by
  unfold HexRel at *
  rw [List.take_add_one, hc, Option.toList_some, hexFrom_append, ← h.2, hexFrom_cons, hexFrom_nil, List.all_append, h.1]
  simp [isHex, hv]
theorem HexRel.lt {l : List UInt8} {k n : Nat} (h : HexRel l k n) (hk : k ≤ 7) : n < 268435456 := by
  have h2 := hexFrom_lt (l.take k) 0
  rw [← h.2] at h2
  have h3 : 16 ^ (l.take k).length ≤ 16 ^ 7 := Nat.pow_le_pow_right (by omega) (by rw [List.length_take]; omega)
  omega
theorem HexRel.bad {l : List UInt8} {k n : Nat} {c : UInt8} (h : HexRel l k n) (h1 : l ≠ []) (h2 : ¬ 8 < l.length) (hc : l[k]? = some c) (hv : hexV c < 0) : pUnhex l = (0, 33) := by
  unfold pUnhex
  rw [if_neg h1, if_neg h2, if_neg]
  intro ha
  have := List.all_eq_true.1 ha c (List.mem_of_getElem? hc)
  simp [isHex] at this
  omega
theorem HexRel.end_ {l : List UInt8} {k n : Nat} (h : HexRel l k n) (h1 : l ≠ []) (h2 : ¬ 8 < l.length) (hk : l.length ≤ k) : pUnhex l = ((n : Int), 0) := by
  unfold HexRel at h
  rw [List.take_of_length_le hk] at h
  unfold pUnhex
  rw [if_neg h1, if_neg h2, if_pos h.1, ← h.2]
end Go.Proofs.YtnepogddjinpoaaGreatDoor

namespace Go.Proofs.YtnepogddjinpoaaGreatDoor
set_option linter.unusedVariables false

def unresB (c : UInt8) : Bool := isLetter c || (isDig c || (c.toNat == 45 || (c.toNat == 46 || (c.toNat == 95 || c.toNat == 126))))
def resL : List UInt8 := [33, 35, 36, 38, 42, 43, 44, 47, 58, 59, 61, 63, 64, 91, 93]
def resB (c : UInt8) : Bool := resL.any (· == c)
def hexB (c : UInt8) : Bool := isDig c || ([97, 98, 99, 100, 101, 102, 65, 66, 67, 68, 69, 70] : List UInt8).any (· == c)
theorem hexB_V (c : UInt8) : hexB c = decide (0 ≤ hexV c) := by
  have := allBytes (fun c => hexB c == decide (0 ≤ hexV c)) (by decide +kernel) c
  simpa using this
/-- Does a % with two digits stand at the head? -/
def codedB : List UInt8 → Bool
  | c :: a :: b :: _ => c == 37 && (hexB a && hexB b)
  | _ => false
def pct2 (c : UInt8) : List UInt8 := 37 :: pHex (c.toNat : Int) 2
theorem pHex2_len (n : Int) : (pHex n 2).length = 2 := by unfold pHex; rw [hexs_length]; rfl
def keepB (nm : Bool) (c : UInt8) (r : List UInt8) : Bool := unresB c || (nm && (resB c || codedB (c :: r)))
def pctR (nm : Bool) : List UInt8 → List UInt8
  | [] => []
  | c :: r => (if keepB nm c r then [c] else pct2 c) ++ pctR nm r
theorem pctR_len (nm : Bool) (l : List UInt8) : (pctR nm l).length ≤ 3 * l.length := by
  induction l with
  | nil => simp [pctR]
  | cons c r ih =>
    simp only [pctR, List.length_append, List.length_cons]
    split
    · simp; omega
    · simp [pct2, pHex2_len]; omega
end Go.Proofs.YtnepogddjinpoaaGreatDoor

namespace Go.Proofs.YtnepogddjinpoaaGreatDoor
set_option linter.unusedVariables false

def hexOf : List UInt8 → Nat
  | a :: b :: _ => (hexV a).toNat * 16 + (hexV b).toNat
  | _ => 0
theorem pUnhex2 (a b : UInt8) : pUnhex [a, b] = show Int × Int from if hexB a && hexB b then ((hexOf [a, b] : Nat), 0) else (0, 33) := by
  have h1 := hexV_range a
  have h2 := hexV_range b
  rw [hexB_V, hexB_V]
  unfold pUnhex
  by_cases ha : 0 ≤ hexV a <;> by_cases hb : 0 ≤ hexV b <;> simp [ha, hb, hexFrom, hexOf, isHex]
end Go.Proofs.YtnepogddjinpoaaGreatDoor

namespace Go.Proofs.YtnepogddjinpoaaGreatDoor
set_option linter.unusedVariables false

def allowB (l : List UInt8) : Bool := l == [104, 116, 116, 112] || (l == [104, 116, 116, 112, 115] || l == [109, 97, 105, 108, 116, 111])
def markerL : List UInt8 := [35, 90, 103, 111, 116, 109, 112, 108, 90]
end Go.Proofs.YtnepogddjinpoaaGreatDoor

namespace Go.Proofs.YtnepogddjinpoaaGreatDoor
set_option linter.unusedVariables false

theorem u8_self (c : UInt8) : u8 c.toNat = c := by unfold u8; simp
def filterB (l : List UInt8) : List UInt8 := if (schemeB l).2 && !allowB (schemeB l).1 then markerL else pctR true (repairR l)
end Go.Proofs.YtnepogddjinpoaaGreatDoor

namespace Go.Proofs.YtnepogddjinpoaaGreatDoor
set_option linter.unusedVariables false

end Go.Proofs.YtnepogddjinpoaaGreatDoor

namespace Go.Proofs.YtnepogddjinpoaaGreatDoor
set_option linter.unusedVariables false

end Go.Proofs.YtnepogddjinpoaaGreatDoor

namespace Go.Proofs.YtnepogddjinpoaaGreatDoor
set_option linter.unusedVariables false

/-- Does a character stand as it is? -/
def plainC (c : Nat) : Bool := decide (c < 128) && (isLetter (u8 c) || (isDig (u8 c) || ([32, 95, 46, 44] : List UInt8).any (· == u8 c)))
def uniR (n : Nat) : List UInt8 := [92, 117] ++ pHex (n : Int) 4
/-- A character as literal.Quote writes it. -/
def quoteC (c : Nat) : List UInt8 :=
  if plainC c then [u8 c] else if 65535 < c then uniR (55296 + (c - 65536) / 1024) ++ uniR (56320 + (c - 65536) % 1024) else uniR c
def quoteI (c : Int) : List UInt8 := quoteC c.toNat
/-- A text, escaped. -/
def escR (l : List UInt8) : List UInt8 := (charsR l).flatMap quoteI
theorem pHex4_len (n : Int) : (pHex n 4).length = 4 := by unfold pHex; rw [hexs_length]; rfl
theorem uniR_len (n : Nat) : (uniR n).length = 6 := by unfold uniR; simp [pHex4_len]
theorem quoteC_len (c : Nat) : 1 ≤ (quoteC c).length ∧ (quoteC c).length ≤ 12 := by
  unfold quoteC
  split
  · simp
  · split
    · rw [List.length_append, uniR_len, uniR_len]; omega
    · rw [uniR_len]; omega
theorem flatQ_len (xs : List Int) : (xs.flatMap quoteI).length ≤ 12 * xs.length := by
  induction xs with
  | nil => simp
  | cons x xs ih => simp only [List.flatMap_cons, List.length_append, List.length_cons]; have := (quoteC_len x.toNat).2; unfold quoteI at ih ⊢; omega
theorem escR_len (l : List UInt8) : (escR l).length ≤ 12 * l.length := by
  have := flatQ_len (charsR l); have := charsR_len l; unfold escR; omega
/-- A plain character stands as itself, ends nothing, and is its octets. -/
theorem plainC_octet (c : Nat) (h : plainC c = true) : quoteC c = [u8 c] ∧ encR c = [u8 c] ∧ c < 128 ∧ ((u8 c).toNat = c) ∧ c ≠ 92 ∧ c ≠ 10 ∧ c ≠ 13 ∧ c ≠ 34 ∧ c ≠ 39 := by
  have hc : c < 128 := by unfold plainC at h; simp only [Bool.and_eq_true, decide_eq_true_eq] at h; exact h.1
  refine ⟨by unfold quoteC; rw [if_pos h], by unfold encR; rw [if_pos hc], hc, u8_toNat (by omega), ?_⟩
  have key : ∀ c, c < 128 → plainC c = true → c ≠ 92 ∧ c ≠ 10 ∧ c ≠ 13 ∧ c ≠ 34 ∧ c ≠ 39 := by decide +kernel
  exact key c hc h
end Go.Proofs.YtnepogddjinpoaaGreatDoor
