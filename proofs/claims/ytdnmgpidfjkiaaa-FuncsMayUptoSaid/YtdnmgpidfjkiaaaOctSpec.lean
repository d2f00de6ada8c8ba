/-
  PLAIN LAWS: octets in small and great letters; blanks, letters.
-/
import Derived.Test.YtdnmgpidfjkiaaaDec
namespace Go.Proofs.Ytdnmgpidfjkiaaa
set_option linter.unusedVariables false

def smallB (c : UInt8) : UInt8 := if 65 ≤ c.toNat ∧ c.toNat ≤ 90 then c + 32 else c
def greatB (c : UInt8) : UInt8 := if 97 ≤ c.toNat ∧ c.toNat ≤ 122 then c - 32 else c
theorem smallB_yes (c : UInt8) (h : 65 ≤ c.toNat ∧ c.toNat ≤ 90) : (smallB c).toNat = c.toNat + 32 := by
  unfold smallB; rw [if_pos h, UInt8.toNat_add]; have : (32 : UInt8).toNat = 32 := rfl; omega
theorem smallB_no (c : UInt8) (h : ¬ (65 ≤ c.toNat ∧ c.toNat ≤ 90)) : smallB c = c := by unfold smallB; rw [if_neg h]
theorem greatB_yes (c : UInt8) (h : 97 ≤ c.toNat ∧ c.toNat ≤ 122) : (greatB c).toNat = c.toNat - 32 := by
  unfold greatB; rw [if_pos h, UInt8.toNat_sub_of_le]; rfl
  rw [UInt8.le_iff_toNat_le]; have : (32 : UInt8).toNat = 32 := rfl; omega
theorem greatB_no (c : UInt8) (h : ¬ (97 ≤ c.toNat ∧ c.toNat ≤ 122)) : greatB c = c := by unfold greatB; rw [if_neg h]
/-- A fact on all octets, asked of each. -/
theorem allBytes (p : UInt8 → Bool) (h : ∀ n : Fin 256, p (UInt8.ofNat n.val) = true) (c : UInt8) : p c = true := by
  have := h ⟨c.toNat, c.toNat_lt⟩
  simpa using this
def isBlank (c : UInt8) : Bool := c == 32 || c == 9 || c == 10 || c == 12 || c == 13
def isLetter (c : UInt8) : Bool := decide (97 ≤ c.toNat ∧ c.toNat ≤ 122) || decide (65 ≤ c.toNat ∧ c.toNat ≤ 90)
theorem letter_or (c : UInt8) : isLetter c = (decide (97 ≤ (c ||| 32).toNat) && decide ((c ||| 32).toNat ≤ 122)) := by
  have := allBytes (fun c => isLetter c == (decide (97 ≤ (c ||| 32).toNat) && decide ((c ||| 32).toNat ≤ 122))) (by decide +kernel) c
  simpa using this
end Go.Proofs.Ytdnmgpidfjkiaaa
