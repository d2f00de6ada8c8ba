/-
  muslinref01 on octets: Letter, Digit.
-/
import Derived.Test.YtnepogddjinpoaaGreatDoorM1
import Derived.Test.YtnepogddjinpoaaGreatDoorProg
import Derived.WalkKit
namespace Go.Proofs.YtnepogddjinpoaaGreatDoor
open Go.RowKit
set_option linter.unusedVariables false
set_option linter.unusedSimpArgs false

set_option maxHeartbeats 1000000 in
theorem refDig_any (c : UInt8) (w : World) : Calls Tryz.prog 113 #[.int .u8 (c.toNat : Int)] w fun e w' => e = .returned (.bool (isDig c)) ∧ w = w' := by
  have hd : isDig c = (decide (48 ≤ (c.toNat : Int)) && decide ((c.toNat : Int) ≤ 57)) := by
    rw [show isDig c = (decide (48 ≤ c.toNat) && decide (c.toNat ≤ 57)) from rfl]
    by_cases h1 : 48 ≤ c.toNat <;> by_cases h2 : c.toNat ≤ 57 <;> simp [h1, h2] <;> omega
  by_cases h : (48 : Int) ≤ (c.toNat : Int)
  · obtain ⟨b, hb⟩ : ∃ b, decide ((c.toNat : Int) ≤ 57) = b := ⟨_, rfl⟩
    rw [hd, hb, show decide (48 ≤ (c.toNat : Int)) = true by simpa using h]
    clear hd
    go_enter Tryz.func113, Tryz.ntmps113
    go_wp2
    go_ret
    exact ⟨rfl, rfl⟩
  · have h2 : decide ((48 : Int) ≤ (c.toNat : Int)) = false := by simpa using h
    have h3 : (c.toNat : Int) < 48 := by omega
    rw [hd, h2]
    clear hd h
    go_enter Tryz.func113, Tryz.ntmps113
    go_wp2
    go_ret
    exact ⟨rfl, rfl⟩
set_option maxHeartbeats 1000000 in
theorem refLet_any (c : UInt8) (w : World) : Calls Tryz.prog 112 #[.int .u8 (c.toNat : Int)] w fun e w' => e = .returned (.bool (isLetter c)) ∧ w = w' := by
  have hl : isLetter c = ((decide (97 ≤ (c.toNat : Int)) && decide ((c.toNat : Int) ≤ 122)) || (decide (65 ≤ (c.toNat : Int)) && decide ((c.toNat : Int) ≤ 90))) := by
    have := allBytes (fun c => isLetter c == ((decide (97 ≤ (c.toNat : Int)) && decide ((c.toNat : Int) ≤ 122)) || (decide (65 ≤ (c.toNat : Int)) && decide ((c.toNat : Int) ≤ 90)))) (by decide +kernel) c
    simpa using this
  generalize (c.toNat : Int) = x at hl ⊢
  by_cases h1 : 97 ≤ x
  · by_cases h2 : x ≤ 122
    · rw [show isLetter c = true by rw [hl]; simp [h1, h2]]
      clear hl
      go_enter Tryz.func112, Tryz.ntmps112
      go_wp2
      go_ret
      exact ⟨rfl, rfl⟩
    · have h3 : decide (x ≤ 122) = false := by simpa using h2
      have h4 : 65 ≤ x := by omega
      have h5 : decide (x ≤ 90) = false := by simp; omega
      rw [show isLetter c = false by rw [hl, h3, h5]; simp]
      have h6 : 122 < x := by omega
      have h7 : 90 < x := by omega
      clear hl h2
      go_enter Tryz.func112, Tryz.ntmps112
      go_wp2
      go_ret
      exact ⟨rfl, rfl⟩
  · have h2 : decide (97 ≤ x) = false := by simpa using h1
    have h3 : x < 97 := by omega
    by_cases h4 : 65 ≤ x
    · obtain ⟨b, hb⟩ : ∃ b, decide (x ≤ 90) = b := ⟨_, rfl⟩
      rw [show isLetter c = b by rw [hl, h2, hb]; simp [h4]]
      clear hl h1
      go_enter Tryz.func112, Tryz.ntmps112
      go_wp2
      go_ret
      exact ⟨rfl, rfl⟩
    · have h5 : decide (65 ≤ x) = false := by simpa using h4
      have h6 : x < 65 := by omega
      rw [show isLetter c = false by rw [hl, h2, h5]; simp]
      clear hl h1 h4
      go_enter Tryz.func112, Tryz.ntmps112
      go_wp2
      go_ret
      exact ⟨rfl, rfl⟩

end Go.Proofs.YtnepogddjinpoaaGreatDoor
