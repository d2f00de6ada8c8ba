/-
  PLAIN LAWS: what is encoded comes back.
-/
import Derived.Test.YtdnmgpidfjkiaaaDoorUnpSpec
namespace Go.Proofs.YtdnmgpidfjkiaaaDoor
set_option linter.unusedVariables false

theorem pct2_good (c : UInt8) : ∃ a b, pct2 c = [37, a, b] ∧ hexB a = true ∧ hexB b = true ∧ UInt8.ofNat (hexOf [a, b]) = c := by
  have h := allBytes (fun c => match pHex (c.toNat : Int) 2 with
    | [a, b] => hexB a && (hexB b && UInt8.ofNat (hexOf [a, b]) == c)
    | _ => false) (by decide +kernel) c
  have hl := pHex2_len (c.toNat : Int)
  unfold pct2
  match hp : pHex (c.toNat : Int) 2 with
  | [a, b] =>
    rw [hp] at h
    simp only [Bool.and_eq_true, beq_iff_eq] at h
    exact ⟨a, b, rfl, h.1, h.2.1, h.2.2⟩
  | [] => rw [hp] at hl; simp at hl
  | [_] => rw [hp] at hl; simp at hl
  | _ :: _ :: _ :: _ => rw [hp] at hl; simp at hl
theorem unres_ne (c : UInt8) (h : unresB c = true) : (c != 37) = true := by
  have := allBytes (fun c => !unresB c || c != 37) (by decide +kernel) c
  rw [h] at this
  simpa using this
theorem unp_pct (r : List UInt8) : unp (pctR false r) = (r, (pctR false r).length, true) := by
  induction r with
  | nil => simp [pctR, unp_nil]
  | cons c r ih =>
    have hk : keepB false c r = unresB c := by simp [keepB]
    simp only [pctR, hk]
    rcases Bool.eq_false_or_eq_true (unresB c) with h | h
    · rw [h, if_pos rfl]
      show unp (c :: pctR false r) = _
      rw [unp_keep c _ (unres_ne c h), ih]
      simp
    · rw [h, if_neg Bool.false_ne_true]
      obtain ⟨a, b, e, ha, hb, hv⟩ := pct2_good c
      rw [e]
      show unp (37 :: a :: b :: pctR false r) = _
      rw [unp_code 37 _ rfl (by simp [codedB, ha, hb])]
      have h1 : hexOf (a :: b :: pctR false r) = hexOf [a, b] := rfl
      rw [h1, hv]
      simp [ih]
end Go.Proofs.YtdnmgpidfjkiaaaDoor
