/-
  octets.Letter; percent: Unreserved, Reserved.
-/
import Derived.Test.YtdnmgpidfjkiaaaDoorPctDec
import Derived.Test.YtdnmgpidfjkiaaaDoorHex
import Derived.Test.YtdnmgpidfjkiaaaDoorOct
namespace Go.Proofs.YtdnmgpidfjkiaaaDoor
open Go.RowKit
set_option linter.unusedVariables false
set_option linter.unusedSimpArgs false

theorem letter_bits (c : UInt8) : (decide (97 ≤ bits BinOp.or IntKind.u8 (c.toNat : Int) 32) && decide (bits BinOp.or IntKind.u8 (c.toNat : Int) 32 ≤ 122)) = isLetter c := by
  have := allBytes (fun c => (decide (97 ≤ bits BinOp.or IntKind.u8 (c.toNat : Int) 32) && decide (bits BinOp.or IntKind.u8 (c.toNat : Int) 32 ≤ 122)) == isLetter c) (by decide +kernel) c
  simpa using this
set_option maxHeartbeats 400000 in
set_option maxRecDepth 100000 in
theorem letter_any (c : UInt8) (w : World) : Calls Tryd.prog 95 #[.int .u8 (c.toNat : Int)] w fun e w' => e = .returned (.bool (isLetter c)) ∧ w = w' := by
  have hb := letter_bits c
  generalize isLetter c = b at hb
  generalize hv : bits BinOp.or IntKind.u8 (c.toNat : Int) 32 = v at hb
  rcases Bool.eq_false_or_eq_true (decide (97 ≤ v)) with h1 | h1
  · rw [h1, Bool.true_and] at hb
    subst hb
    go_enter Tryd.func95, Tryd.ntmps95
    go_wp2_with fail
    go_ret
    exact ⟨rfl, rfl⟩
  · rw [h1, Bool.false_and] at hb
    subst hb
    go_enter Tryd.func95, Tryd.ntmps95
    go_wp2_with fail
    go_ret
    exact ⟨rfl, rfl⟩
/-- The octets that stand beside letters and digits. -/
def dashL : List UInt8 := [45, 46, 95, 126]
theorem index_iff (l : List UInt8) (c : UInt8) : 0 ≤ Lib.indexByte l c ↔ l.any (· == c) = true := by
  induction l with
  | nil => simp [Lib.indexByte]
  | cons b l ih =>
    have hg := Lib.indexByte_ge l c
    simp only [Lib.indexByte, List.any_cons, Bool.or_eq_true, ← ih]
    split
    · rename_i h; simp [h]
    · rename_i h
      split
      · rename_i h1
        have h2 : Lib.indexByte l c = -1 := by simpa using h1
        simp [h, h2]
      · rename_i h1
        have h2 : ¬ Lib.indexByte l c = -1 := by simpa using h1
        simp [h]
        omega
theorem index_has (l : List UInt8) (c : UInt8) : decide (0 ≤ Lib.indexByte l c) = l.any (· == c) := by
  rw [Bool.eq_iff_iff, decide_eq_true_iff]
  exact index_iff l c
theorem at_index (l : List UInt8) (c : UInt8) (w : World) : Calls Tryd.prog 96 #[.string ⟨l.toArray⟩, .int .u8 (c.toNat : Int)] w fun e w' => (∃ i : Int, e = .returned (.int .i64 i) ∧ decide (0 ≤ i) = l.any (· == c)) ∧ w = w' := by
  refine (strings_IndexByte ⟨l.toArray⟩ (c.toNat : Int) w).mono ?_
  rintro e w' ⟨rfl, rfl⟩
  refine ⟨⟨_, rfl, ?_⟩, rfl⟩
  rw [← index_has]
  have : (c.toNat : Int).toNat.toUInt8 = c := by simp
  rw [this]
theorem unres_split (c : UInt8) : unresB c = (isLetter c || (isDig c || dashL.any (· == c))) := by
  have := allBytes (fun c => unresB c == (isLetter c || (isDig c || dashL.any (· == c)))) (by decide +kernel) c
  simpa using this
theorem dig_split (c : UInt8) : isDig c = (decide (48 ≤ (c.toNat : Int)) && decide ((c.toNat : Int) ≤ 57)) := by
  have := allBytes (fun c => isDig c == (decide (48 ≤ (c.toNat : Int)) && decide ((c.toNat : Int) ≤ 57))) (by decide +kernel) c
  simpa using this
end Go.Proofs.YtdnmgpidfjkiaaaDoor
