/-
  jslex.wordy.
-/
import Derived.Test.YtdnmgpidfjkiaaaDoorFuncB
import Derived.Test.YtdnmgpidfjkiaaaDoorM1
namespace Go.Proofs.YtdnmgpidfjkiaaaDoor
open Go.RowKit
set_option linter.unusedVariables false
set_option linter.unusedSimpArgs false

theorem int_beqL (x y : Nat) : (((x : Nat) : Int) == (y : Int)) = (x == y) := by
  rw [Bool.eq_iff_iff, beq_iff_eq, beq_iff_eq]; omega
theorem newlB_intL (c : UInt8) : newlB c = (((c.toNat : Int) == 10) || ((c.toNat : Int) == 13)) :=
  eq_of_beq (allBytes (fun c => newlB c == (((c.toNat : Int) == 10) || ((c.toNat : Int) == 13))) (by decide +kernel) c)
theorem wordyB_intL (c : UInt8) : wordyB c = (isLetter c || ((decide (48 ≤ (c.toNat : Int)) && decide ((c.toNat : Int) ≤ 57)) || (((c.toNat : Int) == 95) || (((c.toNat : Int) == 36) || decide (127 < (c.toNat : Int)))))) :=
  eq_of_beq (allBytes (fun c => wordyB c == (isLetter c || ((decide (48 ≤ (c.toNat : Int)) && decide ((c.toNat : Int) ≤ 57)) || (((c.toNat : Int) == 95) || (((c.toNat : Int) == 36) || decide (127 < (c.toNat : Int))))))) (by decide +kernel) c)
theorem eq_intL (c : UInt8) (n : Nat) (d : UInt8) (h : d.toNat = n) : (c == d) = ((c.toNat : Int) == (n : Int)) := by
  rw [Bool.eq_iff_iff, beq_iff_eq, beq_iff_eq]
  constructor
  · rintro rfl; omega
  · intro h2; apply UInt8.toNat_inj.1; omega
set_option maxHeartbeats 1000000 in
set_option maxRecDepth 100000 in
theorem lexWordy_any (c : UInt8) (w : World) : Calls Tryd.prog 73 #[.int .u8 (c.toNat : Int)] w fun e w' => e = .returned (.bool (wordyB c)) ∧ w = w' := by
  have cL := letter_any c w
  rw [wordyB_intL]
  generalize isLetter c = b1 at cL ⊢
  have cL := hide cL
  cases b1
  rotate_left
  · go_enter Tryd.func73, Tryd.ntmps73
    go_wp2_with (go_at_call 95; refine (cL.out).mono ?_; rintro e w1 ⟨rfl, rfl⟩)
    go_ret
    exact ⟨rfl, rfl⟩
  · rcases Bool.eq_false_or_eq_true (decide (48 ≤ (c.toNat : Int))) with g1 | g1
    · rcases Bool.eq_false_or_eq_true (decide ((c.toNat : Int) ≤ 57)) with g2 | g2
      · rw [g1, g2]
        go_enter Tryd.func73, Tryd.ntmps73
        go_wp2_with (go_at_call 95; refine (cL.out).mono ?_; rintro e w1 ⟨rfl, rfl⟩)
        go_ret
        exact ⟨rfl, rfl⟩
      · have g3 : ((c.toNat : Int) == 36) = false := by simp at g2 ⊢; omega
        rw [g1, g2, g3]
        rcases Bool.eq_false_or_eq_true ((c.toNat : Int) == 95) with g4 | g4
        · rw [g4]
          go_enter Tryd.func73, Tryd.ntmps73
          go_wp2_with (go_at_call 95; refine (cL.out).mono ?_; rintro e w1 ⟨rfl, rfl⟩)
          go_ret
          exact ⟨rfl, rfl⟩
        · rw [g4]
          go_enter Tryd.func73, Tryd.ntmps73
          go_wp2_with (go_at_call 95; refine (cL.out).mono ?_; rintro e w1 ⟨rfl, rfl⟩)
          go_ret
          exact ⟨rfl, rfl⟩
    · have g3 : ((c.toNat : Int) == 95) = false := by simp at g1 ⊢; omega
      have g5 : decide (127 < (c.toNat : Int)) = false := by simp at g1 ⊢; omega
      rw [g1, g3, g5]
      rcases Bool.eq_false_or_eq_true ((c.toNat : Int) == 36) with g4 | g4
      · rw [g4]
        go_enter Tryd.func73, Tryd.ntmps73
        go_wp2_with (go_at_call 95; refine (cL.out).mono ?_; rintro e w1 ⟨rfl, rfl⟩)
        go_ret
        exact ⟨rfl, rfl⟩
      · rw [g4]
        go_enter Tryd.func73, Tryd.ntmps73
        go_wp2_with (go_at_call 95; refine (cL.out).mono ?_; rintro e w1 ⟨rfl, rfl⟩)
        go_ret
        exact ⟨rfl, rfl⟩
end Go.Proofs.YtdnmgpidfjkiaaaDoor
