/-
  PLAIN LAWS: texts within a script's quotes.
-/
import Derived.Test.YtdnmgpidfjkiaaaDoorNormSpec
namespace Go.Proofs.YtdnmgpidfjkiaaaDoor
set_option linter.unusedVariables false

/-- Does a character stand as it is? -/
def plainC (c : Nat) : Bool := decide (c < 128) && (isLetter (u8 c) || (isDig (u8 c) || ([32, 95, 46, 44] : List UInt8).any (· == u8 c)))
def uniR (n : Nat) : List UInt8 := [92, 117] ++ pHex (n : Int) 4
/-- A character as literal.Quote writes it. -/
def quoteC (c : Nat) : List UInt8 :=
  if plainC c then [u8 c] else if 65535 < c then uniR (55296 + (c - 65536) / 1024) ++ uniR (56320 + (c - 65536) % 1024) else uniR c
def quoteI (c : Int) : List UInt8 := quoteC c.toNat
/-- A text, escaped. -/
def escR (l : List UInt8) : List UInt8 := (charsR l).flatMap quoteI
theorem pHex4_len (n : Int) : (pHex n 4).length = 4 := by unfold pHex; rw [hexs_length]; rfl
theorem uniR_len (n : Nat) : (uniR n).length = 6 := by unfold uniR; simp [pHex4_len]
theorem quoteC_len (c : Nat) : 1 ≤ (quoteC c).length ∧ (quoteC c).length ≤ 12 := by
  unfold quoteC
  split
  · simp
  · split
    · rw [List.length_append, uniR_len, uniR_len]; omega
    · rw [uniR_len]; omega
theorem flatQ_len (xs : List Int) : (xs.flatMap quoteI).length ≤ 12 * xs.length := by
  induction xs with
  | nil => simp
  | cons x xs ih => simp only [List.flatMap_cons, List.length_append, List.length_cons]; have := (quoteC_len x.toNat).2; unfold quoteI at ih ⊢; omega
theorem escR_len (l : List UInt8) : (escR l).length ≤ 12 * l.length := by
  have := flatQ_len (charsR l); have := charsR_len l; unfold escR; omega
theorem charsR_app : ∀ (n : Nat) (a b : List UInt8), a.length ≤ n → validR a = true → charsR (a ++ b) = charsR a ++ charsR b := by
  intro n
  induction n with
  | zero =>
    intro a b ha _
    obtain rfl : a = [] := List.eq_nil_of_length_eq_zero (by omega)
    simp [charsR_nil]
  | succ n ih =>
    intro a b ha hv
    by_cases h : a = []
    · subst h; simp [charsR_nil]
    · rw [validR_cons a h] at hv
      by_cases hd : (decR a).1 < 0
      · rw [if_pos hd] at hv; cases hv
      · rw [if_neg hd] at hv
        have hp := decR_pos a h
        rw [charsR_cons (a ++ b) (by simp [h]), charsR_cons a h, decR_app b (by omega), List.drop_append_of_le_length hp.2,
          ih (a.drop (decR a).2) b (by rw [List.length_drop]; omega) hv, List.cons_append]
/-- Two texts, the first one valid, are escaped one behind the other. -/
theorem escR_app (a b : List UInt8) (h : validR a = true) : escR (a ++ b) = escR a ++ escR b := by
  unfold escR
  rw [charsR_app a.length a b (Nat.le_refl _) h, List.flatMap_append]
theorem hexV_digit (d : Nat) (h : d < 16) : hexV (hexd d) = (d : Int) := by
  revert h; revert d; decide
theorem hexFrom_digits (u : Nat) : ∀ k n, hexFrom n (hexs u k) = n * 16 ^ k + u % 16 ^ k := by
  intro k
  induction k with
  | zero => intro n; simp [hexs, hexFrom_nil, Nat.mod_one]
  | succ k ih =>
    intro n
    have hd : u / 16 ^ k % 16 < 16 := Nat.mod_lt _ (by omega)
    show hexFrom n (hexd (u / 16 ^ k % 16) :: hexs u k) = _
    rw [hexFrom_cons, hexV_digit _ hd, Int.toNat_natCast, ih, Nat.add_mul, Nat.mul_assoc, ← Nat.pow_succ', Nat.add_assoc]
    congr 1
    rw [Nat.pow_succ, Nat.mod_mul, Nat.mul_comm (u / 16 ^ k % 16), Nat.add_comm]
theorem hexs_all (u : Nat) : ∀ k, (hexs u k).all isHex = true := by
  intro k
  induction k with
  | zero => rfl
  | succ k ih =>
    have hd : u / 16 ^ k % 16 < 16 := Nat.mod_lt _ (by omega)
    show (hexd (u / 16 ^ k % 16) :: hexs u k).all isHex = true
    rw [List.all_cons, ih, isHex, hexV_digit _ hd, decide_eq_true (Int.natCast_nonneg _)]
    rfl
theorem pHex4 (n : Nat) (h : n < 65536) : pHex (n : Int) 4 = hexs n 4 := by
  unfold pHex
  have h1 : hexU (n : Int) = n := by unfold hexU; omega
  rw [h1]; rfl
/-- Four digits are read back. -/
theorem pUnhex4 (n : Nat) (h : n < 65536) : pUnhex (pHex (n : Int) 4) = ((n : Int), 0) := by
  rw [pHex4 n h]
  have hl := hexs_length n 4
  unfold pUnhex
  rw [if_neg (by intro e; rw [e] at hl; simp at hl), if_neg (by omega), if_pos (hexs_all n 4), hexFrom_digits]
  simp
  omega
/-- A plain character stands as itself, ends nothing, and is its octets. -/
theorem plainC_octet (c : Nat) (h : plainC c = true) : quoteC c = [u8 c] ∧ encR c = [u8 c] ∧ c < 128 ∧ ((u8 c).toNat = c) ∧ c ≠ 92 ∧ c ≠ 10 ∧ c ≠ 13 ∧ c ≠ 34 ∧ c ≠ 39 := by
  have hc : c < 128 := by unfold plainC at h; simp only [Bool.and_eq_true, decide_eq_true_eq] at h; exact h.1
  refine ⟨by unfold quoteC; rw [if_pos h], by unfold encR; rw [if_pos hc], hc, u8_toNat (by omega), ?_⟩
  have key : ∀ c, c < 128 → plainC c = true → c ≠ 92 ∧ c ≠ 10 ∧ c ≠ 13 ∧ c ≠ 34 ∧ c ≠ 39 := by decide +kernel
  exact key c hc h
/-- Octets that end nothing. -/
def quietB (c : UInt8) : Bool := !(([60, 62, 38, 39, 34, 47, 33, 45, 96, 10, 13, 0] : List UInt8).any (· == c))
theorem hexd_quiet (d : Nat) (h : d < 16) : quietB (hexd d) = true := by
  revert h; revert d; decide
theorem hexs_quiet (u k : Nat) : (hexs u k).all quietB = true := by
  induction k with
  | zero => rfl
  | succ k ih =>
    show (hexd (u / 16 ^ k % 16) :: hexs u k).all quietB = true
    rw [List.all_cons, ih, hexd_quiet _ (Nat.mod_lt _ (by omega))]; rfl
theorem uniR_quiet (n : Nat) : (uniR n).all quietB = true := by
  unfold uniR pHex
  rw [List.all_append, hexs_quiet]; rfl
theorem quoteC_quiet (c : Nat) : (quoteC c).all quietB = true := by
  unfold quoteC
  split
  · rename_i h
    have hc : c < 128 := by unfold plainC at h; simp only [Bool.and_eq_true, decide_eq_true_eq] at h; exact h.1
    have key : ∀ c, c < 128 → plainC c = true → quietB (u8 c) = true := by decide +kernel
    simp [key c hc h]
  · split
    · rw [List.all_append, uniR_quiet, uniR_quiet]; rfl
    · exact uniR_quiet c
theorem escR_quiet (l : List UInt8) : (escR l).all quietB = true := by
  unfold escR
  rw [List.all_flatMap]
  rw [List.all_eq_true]
  intro c _
  exact quoteC_quiet _
end Go.Proofs.YtdnmgpidfjkiaaaDoor
