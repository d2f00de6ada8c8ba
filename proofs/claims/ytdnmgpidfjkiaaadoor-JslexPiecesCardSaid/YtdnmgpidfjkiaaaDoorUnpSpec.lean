/-
  PLAIN LAWS: decoding percent signs.
-/
import Derived.Test.YtdnmgpidfjkiaaaDoorPctSpec
namespace Go.Proofs.YtdnmgpidfjkiaaaDoor
set_option linter.unusedVariables false

def hexOf : List UInt8 → Nat
  | a :: b :: _ => (hexV a).toNat * 16 + (hexV b).toNat
  | _ => 0
theorem hexOf_lt (l : List UInt8) : hexOf l < 256 := by
  match l with
  | [] => simp [hexOf]
  | [a] => simp [hexOf]
  | a :: b :: r =>
    have h1 := hexV_range a
    have h2 := hexV_range b
    show (hexV a).toNat * 16 + (hexV b).toNat < 256
    omega
theorem codedB_len {c : UInt8} {r : List UInt8} (h : codedB (c :: r) = true) : 2 ≤ r.length := by
  match r with
  | [] => cases h
  | [a] => cases h
  | a :: b :: r => simp
/-- What is decoded, how far, and whether all. -/
def unp (l : List UInt8) : List UInt8 × Nat × Bool :=
  match l with
  | [] => ([], 0, true)
  | c :: r =>
    if c != 37 then (c :: (unp r).1, (unp r).2.1 + 1, (unp r).2.2)
    else if codedB (c :: r) then (UInt8.ofNat (hexOf r) :: (unp (r.drop 2)).1, (unp (r.drop 2)).2.1 + 3, (unp (r.drop 2)).2.2)
    else ([], 0, false)
  termination_by l.length
  decreasing_by all_goals (simp; try omega)
theorem unp_nil : unp [] = ([], 0, true) := by rw [unp]
theorem unp_keep (c : UInt8) (r : List UInt8) (h : (c != 37) = true) : unp (c :: r) = (c :: (unp r).1, (unp r).2.1 + 1, (unp r).2.2) := by rw [unp, if_pos h]
theorem unp_code (c : UInt8) (r : List UInt8) (h : (c != 37) = false) (h2 : codedB (c :: r) = true) : unp (c :: r) = (UInt8.ofNat (hexOf r) :: (unp (r.drop 2)).1, (unp (r.drop 2)).2.1 + 3, (unp (r.drop 2)).2.2) := by rw [unp, if_neg (by rw [h]; exact Bool.false_ne_true), if_pos h2]
theorem unp_bad (c : UInt8) (r : List UInt8) (h : (c != 37) = false) (h2 : codedB (c :: r) = false) : unp (c :: r) = ([], 0, false) := by rw [unp, if_neg (by rw [h]; exact Bool.false_ne_true), if_neg (by rw [h2]; exact Bool.false_ne_true)]
def UnpRel (l : List UInt8) (k : Nat) (ys : List UInt8) : Prop := unp l = (ys ++ (unp (l.drop k)).1, (unp (l.drop k)).2.1 + k, (unp (l.drop k)).2.2)
theorem UnpRel.start (l : List UInt8) : UnpRel l 0 [] := by unfold UnpRel; simp
theorem drop_at_cons (l : List UInt8) (k : Nat) (c : UInt8) (h : k < l.length) (hc : l[k] = c) : l.drop k = c :: l.drop (k + 1) := by rw [← hc]; exact List.drop_eq_getElem_cons h
theorem UnpRel.keep {l : List UInt8} {k : Nat} {ys : List UInt8} {c : UInt8} (h : UnpRel l k ys) (hk : k < l.length) (hc : l[k] = c) (hn : (c != 37) = true) : UnpRel l (k + 1) (ys ++ [c]) := by
  unfold UnpRel at h ⊢
  rw [drop_at_cons l k c hk hc, unp_keep _ _ hn] at h
  rw [h]
  simp; omega
theorem UnpRel.code {l : List UInt8} {k : Nat} {ys : List UInt8} {c : UInt8} (h : UnpRel l k ys) (hk : k < l.length) (hc : l[k] = c) (hn : (c != 37) = false) (hd : codedB (c :: l.drop (k + 1)) = true) : UnpRel l (k + 3) (ys ++ [UInt8.ofNat (hexOf (l.drop (k + 1)))]) := by
  unfold UnpRel at h ⊢
  rw [drop_at_cons l k c hk hc, unp_code _ _ hn hd, show (l.drop (k + 1)).drop 2 = l.drop (k + 3) by rw [List.drop_drop]] at h
  rw [h]
  simp; omega
theorem UnpRel.bad {l : List UInt8} {k : Nat} {ys : List UInt8} {c : UInt8} (h : UnpRel l k ys) (hk : k < l.length) (hc : l[k] = c) (hn : (c != 37) = false) (hd : codedB (c :: l.drop (k + 1)) = false) : (unp l).2.1 = k ∧ (unp l).2.2 = false := by
  unfold UnpRel at h
  rw [drop_at_cons l k c hk hc, unp_bad _ _ hn hd] at h
  rw [h]; simp
theorem UnpRel.end_ {l : List UInt8} {k : Nat} {ys : List UInt8} (h : UnpRel l k ys) (hk : k = l.length) : (unp l).1 = ys ∧ (unp l).2.2 = true := by
  unfold UnpRel at h
  rw [hk, List.drop_length, unp_nil] at h
  rw [h]; simp
theorem pUnhex2 (a b : UInt8) : pUnhex [a, b] = show Int × Int from if hexB a && hexB b then ((hexOf [a, b] : Nat), 0) else (0, 33) := by
  have h1 := hexV_range a
  have h2 := hexV_range b
  rw [hexB_V, hexB_V]
  unfold pUnhex
  by_cases ha : 0 ≤ hexV a <;> by_cases hb : 0 ≤ hexV b <;> simp [ha, hb, hexFrom, hexOf, isHex]
/-- What plain says: what is decoded, or the text. -/
def plainP (l : List UInt8) : List UInt8 := if (unp l).2.2 then (unp l).1 else l
end Go.Proofs.YtdnmgpidfjkiaaaDoor
