/-
  PLAIN LAWS of many texts, in one.
-/
import Derived.Test.YtnepogddjinpoaaGreatDoorM1
import Derived.Lib.DecodeN
import Derived.Lib.TrimU
import Derived.Shelf.Unicode.DecodeAny
namespace Go.Proofs.YtnepogddjinpoaaGreatDoor
set_option linter.unusedVariables false

def sizeR (b : UInt8) : Nat := if b.toNat < 128 then 1 else if 194 ≤ b.toNat ∧ b.toNat < 224 then 2 else if 224 ≤ b.toNat ∧ b.toNat < 240 then 3 else if 240 ≤ b.toNat ∧ b.toNat < 245 then 4 else 0
theorem sizeR_le (b : UInt8) : sizeR b ≤ 4 := by unfold sizeR; (repeat' split) <;> omega
def badC (c : Int) : Bool := decide (c < 0) || decide (1114111 < c) || (decide (55296 ≤ c) && decide (c ≤ 57343))
def u8 (n : Nat) : UInt8 := UInt8.ofNat n
theorem u8_toNat {n : Nat} (h : n < 256) : (u8 n).toNat = n := by unfold u8; rw [UInt8.toNat_ofNat']; omega
def encR (c : Nat) : List UInt8 :=
  if c < 128 then [u8 c] else if c < 2048 then [u8 (192 + c / 64), u8 (128 + c % 64)]
  else if c < 65536 then [u8 (224 + c / 4096), u8 (128 + c / 64 % 64), u8 (128 + c % 64)]
  else [u8 (240 + c / 262144), u8 (128 + c / 4096 % 64), u8 (128 + c / 64 % 64), u8 (128 + c % 64)]
theorem encR_len (c : Nat) : 1 ≤ (encR c).length ∧ (encR c).length ≤ 4 := by
  unfold encR; (repeat' split) <;> simp
/-- What a number is written as; nothing if it is no character. -/
def encL (c : Int) : List UInt8 := if badC c then [] else encR c.toNat
def contB (x : UInt8) : Bool := decide (128 ≤ x.toNat) && decide (x.toNat ≤ 191)
def accR (m : Nat) (xs : List UInt8) : Nat := xs.foldl (fun c x => c * 64 + (x.toNat - 128)) m
def maskR (n : Nat) : Nat := if n = 1 then 128 else if n = 2 then 32 else if n = 3 then 16 else 8
def decR : List UInt8 → Int × Nat
  | [] => (-1, 0)
  | b :: r =>
    if sizeR b = 0 ∨ r.length + 1 < sizeR b then (-1, 1)
    else if (r.take (sizeR b - 1)).all contB = false then (-1, 1)
    else if badC (accR (b.toNat % maskR (sizeR b)) (r.take (sizeR b - 1)) : Nat) = false ∧ encR (accR (b.toNat % maskR (sizeR b)) (r.take (sizeR b - 1))) = b :: r.take (sizeR b - 1)
      then ((accR (b.toNat % maskR (sizeR b)) (r.take (sizeR b - 1)) : Nat), sizeR b)
    else (-1, 1)
theorem decR_cons (b : UInt8) (r : List UInt8) : decR (b :: r) = show Int × Nat from
    if sizeR b = 0 ∨ r.length + 1 < sizeR b then (-1, 1)
    else if (r.take (sizeR b - 1)).all contB = false then (-1, 1)
    else if badC (accR (b.toNat % maskR (sizeR b)) (r.take (sizeR b - 1)) : Nat) = false ∧ encR (accR (b.toNat % maskR (sizeR b)) (r.take (sizeR b - 1))) = b :: r.take (sizeR b - 1)
      then ((accR (b.toNat % maskR (sizeR b)) (r.take (sizeR b - 1)) : Nat), sizeR b)
    else (-1, 1) := rfl
theorem decR_pos (l : List UInt8) (h : l ≠ []) : 1 ≤ (decR l).2 ∧ (decR l).2 ≤ l.length := by
  match l with
  | [] => exact absurd rfl h
  | b :: r =>
    rw [decR_cons]
    split
    · simp
    · split
      · simp
      · split
        · rename_i h1 _ _
          simp only [List.length_cons]
          omega
        · simp
def fixC (c : Int) : Int := if c ≤ 0 then 65533 else c
def charsR (l : List UInt8) : List Int := if h : l = [] then [] else fixC (decR l).1 :: charsR (l.drop (decR l).2)
  termination_by l.length
  decreasing_by
    have := decR_pos l h
    rw [List.length_drop]; omega
theorem charsR_nil : charsR [] = [] := by rw [charsR]; simp
theorem charsR_cons (l : List UInt8) (h : l ≠ []) : charsR l = fixC (decR l).1 :: charsR (l.drop (decR l).2) := by rw [charsR, dif_neg h]
theorem decR_good (l : List UInt8) : badC (fixC (decR l).1) = false := by
  unfold fixC
  split
  · decide
  · rename_i h
    match l with
    | [] => simp [decR] at h
    | b :: r =>
      rw [decR_cons] at h ⊢
      split at h
      · simp at h
      · rename_i h1
        rw [if_neg h1]
        split at h
        · simp at h
        · rename_i h2
          rw [if_neg h2]
          split at h
          · rename_i h3
            rw [if_pos h3]
            exact h3.1
          · simp at h
theorem charsR_len (l : List UInt8) : (charsR l).length ≤ l.length := by
  induction hn : l.length using Nat.strongRecOn generalizing l with
  | _ n ih =>
    by_cases h : l = []
    · subst h; simp [charsR_nil]
    · rw [charsR_cons l h]
      have hp := decR_pos l h
      have := ih (l.length - (decR l).2) (by omega) (l.drop (decR l).2) (by rw [List.length_drop])
      simp
      omega
def repairR (l : List UInt8) : List UInt8 := (charsR l).flatMap encL
theorem encL_len (c : Int) : (encL c).length ≤ 4 := by
  unfold encL; split
  · simp
  · exact (encR_len _).2
theorem flat_lenU (xs : List Int) : (xs.flatMap encL).length ≤ 4 * xs.length := by
  induction xs with
  | nil => simp
  | cons x xs ih => simp only [List.flatMap_cons, List.length_append, List.length_cons]; have := encL_len x; omega
theorem repairR_len (l : List UInt8) : (repairR l).length ≤ 4 * l.length := by
  have := flat_lenU (charsR l); have := charsR_len l; unfold repairR; omega
theorem charsR_good (l : List UInt8) : ∀ c ∈ charsR l, badC c = false := by
  induction hn : l.length using Nat.strongRecOn generalizing l with
  | _ n ih =>
    by_cases h : l = []
    · subst h; simp [charsR_nil]
    · rw [charsR_cons l h]
      have hp := decR_pos l h
      intro c hc
      rcases List.mem_cons.1 hc with rfl | hc
      · exact decR_good l
      · exact ih (l.length - (decR l).2) (by omega) (l.drop (decR l).2) (by rw [List.length_drop]) c hc
theorem good_nat {c : Int} (h : badC c = false) : ((c.toNat : Nat) : Int) = c ∧ c ≤ 1114111 := by
  have : 0 ≤ c ∧ c ≤ 1114111 := by simp [badC] at h; omega
  omega
theorem encL_good {c : Int} (h : badC c = false) : encL c = encR c.toNat := by unfold encL; rw [h]; rfl
end Go.Proofs.YtnepogddjinpoaaGreatDoor

namespace Go.Proofs.YtnepogddjinpoaaGreatDoor
set_option linter.unusedVariables false

theorem get_mk (l : List UInt8) (i : Nat) : (⟨l.toArray⟩ : ByteArray).get! i = l.getD i 0 := by
  show (l.toArray)[i]! = _
  simp [List.getD]
  rfl
theorem u8_is {n : Nat} {b : UInt8} (h : b.toNat = n) : u8 n = b := by
  apply UInt8.toNat_inj.1
  have := b.toNat_lt
  rw [u8_toNat (by omega), h]
theorem enc1 {v : Nat} {b : UInt8} (h : v < 128) (h0 : b.toNat = v) : encR v = [b] := by unfold encR; rw [if_pos h, u8_is h0]
theorem enc2 {v : Nat} {b b1 : UInt8} (h : 128 ≤ v) (h' : v < 2048) (h0 : b.toNat = 192 + v / 64) (h1 : b1.toNat = 128 + v % 64) : encR v = [b, b1] := by
  unfold encR; rw [if_neg (by omega), if_pos h', u8_is h0, u8_is h1]
theorem enc3 {v : Nat} {b b1 b2 : UInt8} (h : 2048 ≤ v) (h' : v < 65536) (h0 : b.toNat = 224 + v / 4096) (h1 : b1.toNat = 128 + v / 64 % 64) (h2 : b2.toNat = 128 + v % 64) : encR v = [b, b1, b2] := by
  unfold encR; rw [if_neg (by omega), if_neg (by omega), if_pos h', u8_is h0, u8_is h1, u8_is h2]
theorem enc4 {v : Nat} {b b1 b2 b3 : UInt8} (h : 65536 ≤ v) (h0 : b.toNat = 240 + v / 262144) (h1 : b1.toNat = 128 + v / 4096 % 64) (h2 : b2.toNat = 128 + v / 64 % 64) (h3 : b3.toNat = 128 + v % 64) : encR v = [b, b1, b2, b3] := by
  unfold encR; rw [if_neg (by omega), if_neg (by omega), if_neg (by omega), u8_is h0, u8_is h1, u8_is h2, u8_is h3]
theorem enc_short2 {v : Nat} (h : v < 2048) : (encR v).length ≤ 2 := by unfold encR; (repeat' split) <;> simp <;> omega
theorem enc_short3 {v : Nat} (h : v < 65536) : (encR v).length ≤ 3 := by unfold encR; (repeat' split) <;> simp <;> omega
theorem contB_iff (x : UInt8) : contB x = true ↔ x.toNat / 64 = 2 := by
  have := x.toNat_lt
  unfold contB; simp; omega
def goD (l : List UInt8) : Nat × Nat := Lib.decodeN l.length (l.getD 0 0).toNat (l.getD 1 0).toNat (l.getD 2 0).toNat (l.getD 3 0).toNat
/-- What utf8 tells of the page's answer. -/
def tell (p : Int × Nat) : Nat × Nat := (if p.1 < 0 then 65533 else p.1.toNat, p.2)
theorem tell_nat (v n : Nat) : tell ((v : Int), n) = (v, n) := by unfold tell; rw [if_neg (by simp)]; rfl
theorem contB_no {x : UInt8} (h : ¬ x.toNat / 64 = 2) : contB x = false := by
  rcases Bool.eq_false_or_eq_true (contB x) with e | e
  · exact absurd ((contB_iff x).1 e) h
  · exact e
theorem goD_one (b : UInt8) (r : List UInt8) (h : b.toNat < 128) : goD (b :: r) = (b.toNat, 1) ∧ decR (b :: r) = ((b.toNat : Int), 1) := by
  constructor
  · unfold goD Lib.decodeN
    rw [if_pos (by simpa using h)]; simp
  · rw [decR_cons]
    have hs : sizeR b = 1 := by unfold sizeR; rw [if_pos h]
    have hm : b.toNat % maskR 1 = b.toNat := by unfold maskR; simp; omega
    simp only [hs, Nat.sub_self, List.take_zero, List.all_nil, hm, accR, List.foldl_nil]
    rw [if_neg (by omega), if_neg (by simp), if_pos]
    refine ⟨?_, enc1 h rfl⟩
    unfold badC; simp; omega
theorem decR_bad0 (b : UInt8) (r : List UInt8) (h : sizeR b = 0 ∨ r.length + 1 < sizeR b) : decR (b :: r) = (-1, 1) := by rw [decR_cons, if_pos h]
theorem decR_badc (b : UInt8) (r : List UInt8) (h : (r.take (sizeR b - 1)).all contB = false) : decR (b :: r) = (-1, 1) := by
  rw [decR_cons]
  by_cases h0 : sizeR b = 0 ∨ r.length + 1 < sizeR b
  · rw [if_pos h0]
  · rw [if_neg h0, if_pos h]
theorem decR_val (b : UInt8) (r : List UInt8) (n v : Nat) (hn : sizeR b = n) (h0 : n ≠ 0) (h1 : n ≤ r.length + 1) (hc : (r.take (n - 1)).all contB = true) (hv : accR (b.toNat % maskR n) (r.take (n - 1)) = v) :
    decR (b :: r) = if badC (v : Nat) = false ∧ encR v = b :: r.take (n - 1) then ((v : Int), n) else (-1, 1) := by
  rw [decR_cons]
  simp only [hn, hv]
  rw [if_neg (by omega), if_neg (by rw [hc]; simp)]
theorem goD_zero (b : UInt8) (r : List UInt8) (h : 128 ≤ b.toNat) (hs : sizeR b = 0) : goD (b :: r) = (65533, 1) := by
  have hb : b.toNat < 194 ∨ 245 ≤ b.toNat := by
    unfold sizeR at hs
    rw [if_neg (by omega)] at hs
    by_cases h1 : 194 ≤ b.toNat ∧ b.toNat < 224
    · rw [if_pos h1] at hs; omega
    · rw [if_neg h1] at hs
      by_cases h2 : 224 ≤ b.toNat ∧ b.toNat < 240
      · rw [if_pos h2] at hs; omega
      · rw [if_neg h2] at hs
        by_cases h3 : 240 ≤ b.toNat ∧ b.toNat < 245
        · rw [if_pos h3] at hs; omega
        · omega
  have hlt := b.toNat_lt
  unfold goD Lib.decodeN
  simp only [List.getD_cons_zero]
  generalize (List.getD (b :: r) 1 0).toNat = b1
  generalize (List.getD (b :: r) 2 0).toNat = b2
  generalize (List.getD (b :: r) 3 0).toNat = b3
  repeat' split
  all_goals first | (exfalso; omega) | rfl
theorem size_cases (b : UInt8) (h : 128 ≤ b.toNat) : (sizeR b = 2 ∧ 194 ≤ b.toNat ∧ b.toNat < 224) ∨ (sizeR b = 3 ∧ 224 ≤ b.toNat ∧ b.toNat < 240) ∨ (sizeR b = 4 ∧ 240 ≤ b.toNat ∧ b.toNat < 245) ∨ sizeR b = 0 := by
  unfold sizeR
  rw [if_neg (by omega)]
  by_cases h1 : 194 ≤ b.toNat ∧ b.toNat < 224
  · rw [if_pos h1]; exact .inl ⟨rfl, h1⟩
  · rw [if_neg h1]
    by_cases h2 : 224 ≤ b.toNat ∧ b.toNat < 240
    · rw [if_pos h2]; exact .inr (.inl ⟨rfl, h2⟩)
    · rw [if_neg h2]
      by_cases h3 : 240 ≤ b.toNat ∧ b.toNat < 245
      · rw [if_pos h3]; exact .inr (.inr (.inl ⟨rfl, h3⟩))
      · rw [if_neg h3]; exact .inr (.inr (.inr rfl))
theorem goD_two (b : UInt8) (r : List UInt8) (hs : sizeR b = 2) (l0 : 194 ≤ b.toNat) (l1 : b.toNat < 224) : goD (b :: r) = tell (decR (b :: r)) := by
  match r with
  | [] =>
    rw [decR_bad0 b [] (by simp [hs])]
    show Lib.decodeN 1 b.toNat 0 0 0 = (65533, 1)
    unfold Lib.decodeN
    repeat' split
    all_goals first | (exfalso; omega) | rfl
  | b1 :: r =>
    have t1 := b1.toNat_lt
    have hL : ∃ b2 b3 : Nat, goD (b :: b1 :: r) = Lib.decodeN (r.length + 2) b.toNat b1.toNat b2 b3 := ⟨_, _, rfl⟩
    obtain ⟨b2, b3, hL⟩ := hL
    rw [hL]
    by_cases hc : b1.toNat / 64 = 2
    · rw [decR_val b (b1 :: r) 2 (b.toNat % 32 * 64 + (b1.toNat - 128)) hs (by omega) (by simp) (by simp [contB_iff, hc]) rfl]
      have hv : b.toNat % 32 * 64 + (b1.toNat - 128) = b.toNat % 32 * 64 + b1.toNat % 64 := by omega
      rw [hv, if_pos ⟨by unfold badC; simp; omega, enc2 (by omega) (by omega) (by omega) (by omega)⟩]
      rw [tell_nat]
      unfold Lib.decodeN
      repeat' split
      all_goals first | (exfalso; omega) | rfl
    · rw [decR_badc b (b1 :: r) (by rw [hs]; simp [contB_no hc])]
      show _ = (65533, 1)
      unfold Lib.decodeN
      repeat' split
      all_goals first | (exfalso; omega) | rfl
theorem goD_three (b : UInt8) (r : List UInt8) (hs : sizeR b = 3) (l0 : 224 ≤ b.toNat) (l1 : b.toNat < 240) : goD (b :: r) = tell (decR (b :: r)) := by
  match r with
  | [] =>
    rw [decR_bad0 b [] (by simp [hs])]
    show Lib.decodeN 1 b.toNat  0 0 0 = (65533, 1)
    unfold Lib.decodeN
    repeat' split
    all_goals first | (exfalso; omega) | rfl
  | [b1] =>
    rw [decR_bad0 b [b1] (by simp [hs])]
    show Lib.decodeN 2 b.toNat b1.toNat 0 0 = (65533, 1)
    unfold Lib.decodeN
    repeat' split
    all_goals first | (exfalso; omega) | rfl
  | b1 :: b2 :: r =>
    have t1 := b1.toNat_lt
    have t2 := b2.toNat_lt
    have hL : ∃ b3 : Nat, goD (b :: b1 :: b2 :: r) = Lib.decodeN (r.length + 3) b.toNat b1.toNat b2.toNat b3 := ⟨_, rfl⟩
    obtain ⟨b3, hL⟩ := hL
    rw [hL]
    by_cases hc : b1.toNat / 64 = 2 ∧ b2.toNat / 64 = 2
    · obtain ⟨h1, h2⟩ := hc
      rw [decR_val b (b1 :: b2 :: r) 3 ((b.toNat % 16 * 64 + (b1.toNat - 128)) * 64 + (b2.toNat - 128)) hs (by omega) (by simp) (by simp [contB_iff, h1, h2]) rfl]
      have hv : (b.toNat % 16 * 64 + (b1.toNat - 128)) * 64 + (b2.toNat - 128) = b.toNat % 16 * 4096 + b1.toNat % 64 * 64 + b2.toNat % 64 := by omega
      have p0 : b.toNat = 224 + b.toNat % 16 := by omega
      have p1 : b1.toNat = 128 + b1.toNat % 64 := by omega
      have p2 : b2.toNat = 128 + b2.toNat % 64 := by omega
      rw [hv]
      generalize hV : b.toNat % 16 * 4096 + b1.toNat % 64 * 64 + b2.toNat % 64 = v
      by_cases hg : 2048 ≤ v ∧ (v < 55296 ∨ 57343 < v)
      · rw [if_pos ⟨by unfold badC; simp; omega, by
          show encR v = [b, b1, b2]
          exact enc3 (by omega) (by omega) (by omega) (by omega) (by omega)⟩, tell_nat]
        subst hV
        unfold Lib.decodeN
        repeat' split
        all_goals first | (exfalso; omega) | rfl
      · have hno : ¬ (badC (v : Nat) = false ∧ encR v = b :: (b1 :: b2 :: r).take (3 - 1)) := by
          rintro ⟨g1, g2⟩
          have g3 := congrArg List.length g2
          simp at g3
          unfold badC at g1
          simp at g1
          by_cases h4 : v < 2048
          · have := enc_short2 h4; omega
          · omega
        rw [if_neg hno]
        show _ = (65533, 1)
        unfold Lib.decodeN
        repeat' split
        all_goals first | (exfalso; omega) | rfl
    · rw [decR_badc b (b1 :: b2 :: r) (by
        rw [hs]
        rcases Bool.eq_false_or_eq_true (((b1 :: b2 :: r).take (3 - 1)).all contB) with e | e
        · simp [contB_iff] at e; exact absurd e hc
        · exact e)]
      show _ = (65533, 1)
      unfold Lib.decodeN
      repeat' split
      all_goals first | (exfalso; omega) | rfl
theorem goD_four (b : UInt8) (r : List UInt8) (hs : sizeR b = 4) (l0 : 240 ≤ b.toNat) (l1 : b.toNat < 245) : goD (b :: r) = tell (decR (b :: r)) := by
  match r with
  | [] =>
    rw [decR_bad0 b [] (by simp [hs])]
    show Lib.decodeN 1 b.toNat  0 0 0 = (65533, 1)
    unfold Lib.decodeN
    repeat' split
    all_goals first | (exfalso; omega) | rfl
  | [b1] =>
    rw [decR_bad0 b [b1] (by simp [hs])]
    show Lib.decodeN 2 b.toNat b1.toNat 0 0 = (65533, 1)
    unfold Lib.decodeN
    repeat' split
    all_goals first | (exfalso; omega) | rfl
  | [b1, b2] =>
    rw [decR_bad0 b [b1, b2] (by simp [hs])]
    show Lib.decodeN 3 b.toNat b1.toNat b2.toNat 0 = (65533, 1)
    unfold Lib.decodeN
    repeat' split
    all_goals first | (exfalso; omega) | rfl
  | b1 :: b2 :: b3 :: r =>
    have t1 := b1.toNat_lt
    have t2 := b2.toNat_lt
    have t3 := b3.toNat_lt
    have hL : goD (b :: b1 :: b2 :: b3 :: r) = Lib.decodeN (r.length + 4) b.toNat b1.toNat b2.toNat b3.toNat := rfl
    rw [hL]
    by_cases hc : b1.toNat / 64 = 2 ∧ b2.toNat / 64 = 2 ∧ b3.toNat / 64 = 2
    · obtain ⟨h1, h2, h3⟩ := hc
      rw [decR_val b (b1 :: b2 :: b3 :: r) 4 (((b.toNat % 8 * 64 + (b1.toNat - 128)) * 64 + (b2.toNat - 128)) * 64 + (b3.toNat - 128)) hs (by omega) (by simp) (by simp [contB_iff, h1, h2, h3]) rfl]
      have hv : ((b.toNat % 8 * 64 + (b1.toNat - 128)) * 64 + (b2.toNat - 128)) * 64 + (b3.toNat - 128) = b.toNat % 8 * 262144 + b1.toNat % 64 * 4096 + b2.toNat % 64 * 64 + b3.toNat % 64 := by omega
      have p0 : b.toNat = 240 + b.toNat % 8 := by omega
      have p1 : b1.toNat = 128 + b1.toNat % 64 := by omega
      have p2 : b2.toNat = 128 + b2.toNat % 64 := by omega
      have p3 : b3.toNat = 128 + b3.toNat % 64 := by omega
      rw [hv]
      generalize hV : b.toNat % 8 * 262144 + b1.toNat % 64 * 4096 + b2.toNat % 64 * 64 + b3.toNat % 64 = v
      by_cases hg : 65536 ≤ v ∧ v ≤ 1114111
      · rw [if_pos ⟨by unfold badC; simp; omega, by
          show encR v = [b, b1, b2, b3]
          exact enc4 (by omega) (by omega) (by omega) (by omega) (by omega)⟩, tell_nat]
        subst hV
        unfold Lib.decodeN
        repeat' split
        all_goals first | (exfalso; omega) | rfl
      · have hno : ¬ (badC (v : Nat) = false ∧ encR v = b :: (b1 :: b2 :: b3 :: r).take (4 - 1)) := by
          rintro ⟨g1, g2⟩
          have g3 := congrArg List.length g2
          simp at g3
          unfold badC at g1
          simp at g1
          by_cases h4 : v < 65536
          · have := enc_short3 h4; omega
          · omega
        rw [if_neg hno]
        show _ = (65533, 1)
        unfold Lib.decodeN
        repeat' split
        all_goals first | (exfalso; omega) | rfl
    · rw [decR_badc b (b1 :: b2 :: b3 :: r) (by
        rw [hs]
        rcases Bool.eq_false_or_eq_true (((b1 :: b2 :: b3 :: r).take (4 - 1)).all contB) with e | e
        · simp [contB_iff] at e; exact absurd e hc
        · exact e)]
      show _ = (65533, 1)
      unfold Lib.decodeN
      repeat' split
      all_goals first | (exfalso; omega) | rfl
theorem goD_tell (b : UInt8) (r : List UInt8) : goD (b :: r) = tell (decR (b :: r)) := by
  by_cases h : b.toNat < 128
  · obtain ⟨h1, h2⟩ := goD_one b r h
    rw [h1, h2, tell_nat]
  · rcases size_cases b (by omega) with ⟨hs, l0, l1⟩ | ⟨hs, l0, l1⟩ | ⟨hs, l0, l1⟩ | hs
    · exact goD_two b r hs l0 l1
    · exact goD_three b r hs l0 l1
    · exact goD_four b r hs l0 l1
    · rw [goD_zero b r (by omega) hs, decR_bad0 b r (.inl hs)]; rfl
theorem decGo (l : List UInt8) : Lib.decodeGo ⟨l.toArray⟩ = tell (decR l) := by
  cases l with
  | nil => rfl
  | cons b r =>
    unfold Lib.decodeGo
    have hz : (⟨(b :: r).toArray⟩ : ByteArray).size = r.length + 1 := by simp [ByteArray.size]
    rw [if_neg (by omega), Lib.decode_at, get_mk, get_mk, get_mk, get_mk, hz]
    exact goD_tell b r
end Go.Proofs.YtnepogddjinpoaaGreatDoor
