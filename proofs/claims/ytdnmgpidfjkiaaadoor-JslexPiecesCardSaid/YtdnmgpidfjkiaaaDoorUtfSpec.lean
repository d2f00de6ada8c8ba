/-
  PLAIN LAWS: characters, as the page says.
-/
import Derived.Test.YtdnmgpidfjkiaaaDoorOctSpec
namespace Go.Proofs.YtdnmgpidfjkiaaaDoor
set_option linter.unusedVariables false

def sizeR (b : UInt8) : Nat := if b.toNat < 128 then 1 else if 194 ≤ b.toNat ∧ b.toNat < 224 then 2 else if 224 ≤ b.toNat ∧ b.toNat < 240 then 3 else if 240 ≤ b.toNat ∧ b.toNat < 245 then 4 else 0
theorem sizeR_le (b : UInt8) : sizeR b ≤ 4 := by unfold sizeR; (repeat' split) <;> omega
def badC (c : Int) : Bool := decide (c < 0) || decide (1114111 < c) || (decide (55296 ≤ c) && decide (c ≤ 57343))
def u8 (n : Nat) : UInt8 := UInt8.ofNat n
theorem u8_toNat {n : Nat} (h : n < 256) : (u8 n).toNat = n := by unfold u8; rw [UInt8.toNat_ofNat']; omega
def encR (c : Nat) : List UInt8 :=
  if c < 128 then [u8 c] else if c < 2048 then [u8 (192 + c / 64), u8 (128 + c % 64)]
  else if c < 65536 then [u8 (224 + c / 4096), u8 (128 + c / 64 % 64), u8 (128 + c % 64)]
  else [u8 (240 + c / 262144), u8 (128 + c / 4096 % 64), u8 (128 + c / 64 % 64), u8 (128 + c % 64)]
theorem encR_len (c : Nat) : 1 ≤ (encR c).length ∧ (encR c).length ≤ 4 := by
  unfold encR; (repeat' split) <;> simp
/-- What a number is written as; nothing if it is no character. -/
def encL (c : Int) : List UInt8 := if badC c then [] else encR c.toNat
def contB (x : UInt8) : Bool := decide (128 ≤ x.toNat) && decide (x.toNat ≤ 191)
def accR (m : Nat) (xs : List UInt8) : Nat := xs.foldl (fun c x => c * 64 + (x.toNat - 128)) m
theorem accR_snoc (m : Nat) (xs : List UInt8) (x : UInt8) : accR m (xs ++ [x]) = accR m xs * 64 + (x.toNat - 128) := by simp [accR]
theorem accR_lt (m : Nat) (hm : m < 128) : ∀ (n : Nat) (xs : List UInt8), xs.length ≤ n → xs.all contB = true → accR m xs < 128 * 64 ^ xs.length := by
  intro n
  induction n with
  | zero =>
    intro xs h _
    obtain rfl : xs = [] := List.eq_nil_of_length_eq_zero (by omega)
    simpa [accR] using hm
  | succ n ih =>
    intro xs h hc
    rcases List.eq_nil_or_concat xs with rfl | ⟨ys, y, rfl⟩
    · simpa [accR] using hm
    · simp at h
      simp only [List.concat_eq_append] at hc ⊢
      simp only [List.all_append, Bool.and_eq_true] at hc
      have h1 := ih ys (by omega) hc.1
      have h2 : y.toNat ≤ 191 := by have := hc.2; simp [contB] at this; exact this.2
      rw [accR_snoc]
      simp only [List.length_append, List.length_cons, List.length_nil, Nat.pow_succ, Nat.zero_add]
      omega
theorem accR_bd (m : Nat) (hm : m < 128) (xs : List UInt8) (h : xs.length ≤ 3) (hc : xs.all contB = true) : accR m xs < 33554432 := by
  have h1 := accR_lt m hm 3 xs h hc
  have h2 : (64 : Nat) ^ xs.length ≤ 64 ^ 3 := Nat.pow_le_pow_right (by omega) h
  have h3 : (64 : Nat) ^ 3 = 262144 := rfl
  omega
def maskR (n : Nat) : Nat := if n = 1 then 128 else if n = 2 then 32 else if n = 3 then 16 else 8
def decR : List UInt8 → Int × Nat
  | [] => (-1, 0)
  | b :: r =>
    if sizeR b = 0 ∨ r.length + 1 < sizeR b then (-1, 1)
    else if (r.take (sizeR b - 1)).all contB = false then (-1, 1)
    else if badC (accR (b.toNat % maskR (sizeR b)) (r.take (sizeR b - 1)) : Nat) = false ∧ encR (accR (b.toNat % maskR (sizeR b)) (r.take (sizeR b - 1))) = b :: r.take (sizeR b - 1)
      then ((accR (b.toNat % maskR (sizeR b)) (r.take (sizeR b - 1)) : Nat), sizeR b)
    else (-1, 1)
theorem decR_cons (b : UInt8) (r : List UInt8) : decR (b :: r) = show Int × Nat from
    if sizeR b = 0 ∨ r.length + 1 < sizeR b then (-1, 1)
    else if (r.take (sizeR b - 1)).all contB = false then (-1, 1)
    else if badC (accR (b.toNat % maskR (sizeR b)) (r.take (sizeR b - 1)) : Nat) = false ∧ encR (accR (b.toNat % maskR (sizeR b)) (r.take (sizeR b - 1))) = b :: r.take (sizeR b - 1)
      then ((accR (b.toNat % maskR (sizeR b)) (r.take (sizeR b - 1)) : Nat), sizeR b)
    else (-1, 1) := rfl
theorem decR_pos (l : List UInt8) (h : l ≠ []) : 1 ≤ (decR l).2 ∧ (decR l).2 ≤ l.length := by
  match l with
  | [] => exact absurd rfl h
  | b :: r =>
    rw [decR_cons]
    split
    · simp
    · split
      · simp
      · split
        · rename_i h1 _ _
          simp only [List.length_cons]
          omega
        · simp
def fixC (c : Int) : Int := if c ≤ 0 then 65533 else c
def charsR (l : List UInt8) : List Int := if h : l = [] then [] else fixC (decR l).1 :: charsR (l.drop (decR l).2)
  termination_by l.length
  decreasing_by
    have := decR_pos l h
    rw [List.length_drop]; omega
theorem charsR_nil : charsR [] = [] := by rw [charsR]; simp
theorem charsR_cons (l : List UInt8) (h : l ≠ []) : charsR l = fixC (decR l).1 :: charsR (l.drop (decR l).2) := by rw [charsR, dif_neg h]
theorem decR_good (l : List UInt8) : badC (fixC (decR l).1) = false := by
  unfold fixC
  split
  · decide
  · rename_i h
    match l with
    | [] => simp [decR] at h
    | b :: r =>
      rw [decR_cons] at h ⊢
      split at h
      · simp at h
      · rename_i h1
        rw [if_neg h1]
        split at h
        · simp at h
        · rename_i h2
          rw [if_neg h2]
          split at h
          · rename_i h3
            rw [if_pos h3]
            exact h3.1
          · simp at h
theorem charsR_len (l : List UInt8) : (charsR l).length ≤ l.length := by
  induction hn : l.length using Nat.strongRecOn generalizing l with
  | _ n ih =>
    by_cases h : l = []
    · subst h; simp [charsR_nil]
    · rw [charsR_cons l h]
      have hp := decR_pos l h
      have := ih (l.length - (decR l).2) (by omega) (l.drop (decR l).2) (by rw [List.length_drop])
      simp
      omega
def repairR (l : List UInt8) : List UInt8 := (charsR l).flatMap encL
theorem encL_len (c : Int) : (encL c).length ≤ 4 := by
  unfold encL; split
  · simp
  · exact (encR_len _).2
theorem flat_len (xs : List Int) : (xs.flatMap encL).length ≤ 4 * xs.length := by
  induction xs with
  | nil => simp
  | cons x xs ih => simp only [List.flatMap_cons, List.length_append, List.length_cons]; have := encL_len x; omega
theorem repairR_len (l : List UInt8) : (repairR l).length ≤ 4 * l.length := by
  have := flat_len (charsR l); have := charsR_len l; unfold repairR; omega
theorem charsR_good (l : List UInt8) : ∀ c ∈ charsR l, badC c = false := by
  induction hn : l.length using Nat.strongRecOn generalizing l with
  | _ n ih =>
    by_cases h : l = []
    · subst h; simp [charsR_nil]
    · rw [charsR_cons l h]
      have hp := decR_pos l h
      intro c hc
      rcases List.mem_cons.1 hc with rfl | hc
      · exact decR_good l
      · exact ih (l.length - (decR l).2) (by omega) (l.drop (decR l).2) (by rw [List.length_drop]) c hc
theorem good_nat {c : Int} (h : badC c = false) : ((c.toNat : Nat) : Int) = c ∧ c ≤ 1114111 := by
  have : 0 ≤ c ∧ c ≤ 1114111 := by simp [badC] at h; omega
  omega
theorem encL_good {c : Int} (h : badC c = false) : encL c = encR c.toNat := by unfold encL; rw [h]; rfl
/-- Are these characters' octets? -/
def validR (l : List UInt8) : Bool := if h : l = [] then true else if (decR l).1 < 0 then false else validR (l.drop (decR l).2)
  termination_by l.length
  decreasing_by
    have := decR_pos l h
    rw [List.length_drop]; omega
theorem validR_nil : validR [] = true := by rw [validR]; simp
theorem validR_cons (l : List UInt8) (h : l ≠ []) : validR l = if (decR l).1 < 0 then false else validR (l.drop (decR l).2) := by rw [validR, dif_neg h]
end Go.Proofs.YtdnmgpidfjkiaaaDoor
