/-
  NumberTells: any number's digits, any text as a number, how two stand, their sum, and whether one is between, are as the page says. THE WALK.
-/
import Derived.Test.YtmgjhofecncgnaaLaw03
import Derived.Test.YtmgjhofecncgnaaParse
import Derived.Test.YtmgjhofecncgnaaRefParse
import Derived.Test.YtmgjhofecncgnaaRefPrint
import Derived.Test.YtmgjhofecncgnaaNumBack
import Derived.Deep.DeepCutAuto
namespace Go.Proofs.Ytmgjhofecncgnaa
open Go.RowKit
set_option linter.unusedVariables false

theorem cmp_cases (a b : Int) : (a < b ∧ cmpI a b = -1) ∨ (b < a ∧ ¬ a < b ∧ cmpI a b = 1) ∨ (¬ a < b ∧ ¬ b < a ∧ cmpI a b = 0) := by
  unfold cmpI
  by_cases h : a < b
  · exact .inl ⟨h, if_pos h⟩
  · by_cases h2 : b < a
    · exact .inr (.inl ⟨h2, h, by rw [if_neg h, if_pos h2]⟩)
    · exact .inr (.inr ⟨h, h2, by rw [if_neg h, if_neg h2]⟩)

set_option maxHeartbeats 4000000 in
set_option maxRecDepth 100000 in
theorem numberTells_ok (a0 : Int) (lo0 : -9223372036854775808 ≤ a0) (hi0 : a0 ≤ 9223372036854775807) (a1 : ByteArray) (s1 : a1.size ≤ 140737488351232) (a2 : Int) (lo2 : -9223372036854775808 ≤ a2) (hi2 : a2 ≤ 9223372036854775807) (a3 : Int) (lo3 : -9223372036854775808 ≤ a3) (hi3 : a3 ≤ 9223372036854775807) (w : World)
    (h5 : -9223372036854775808 ≤ a2 + a3) (h6 : a2 + a3 ≤ 9223372036854775807) :
    Calls Try.prog 7 #[.int .i64 a0, .string a1, .int .i64 a2, .int .i64 a3] w fun e w' => e = .returned (.bool true) ∧ Below w.heap.size w w' := by
  have cP := fun w => parse_any a1 w (by omega)
  have cR := fun w => refParse_any a1 w (by omega)
  generalize pParse a1.data.toList = q at cP cR
  obtain ⟨k, f⟩ := q
  dsimp only at cP cR
  have HP := hide cP
  have HR := hide cR
  clear cP cR
  obtain ⟨p, hp⟩ : ∃ p, pInt a0 = p := ⟨_, rfl⟩
  have cI := hide (fun w => print_any a0 w lo0 hi0)
  have cJ := hide (fun w => refPrint_any a0 w lo0 hi0)
  rw [hp] at cI cJ
  have cC := hide (fun w => compare_any a2 a3 w)
  obtain ⟨o, ho⟩ : ∃ o, cmpI a2 a3 = o := ⟨_, rfl⟩
  rw [ho] at cC
  have HO := hide ho
  clear hp ho s1 lo0 hi0
  go_enter Try.func7, Try.ntmps7
  go_wp2_with fail
  refine (HP.out _).mono ?_
  rintro e w1 ⟨rfl, hb1⟩
  go_wp2_with fail
  refine (HR.out _).mono ?_
  rintro e w2 ⟨rfl, rfl⟩
  go_wp2_with fail
  refine (add_ok a2 a3 _ lo3 hi3 h5 h6).mono ?_
  rintro e w2 ⟨rfl, rfl⟩
  go_upto_region 5 with (fail)
  go_cut [16] (fun s16 wx => s16 = .bool false ∧ wx = w1)
  case first =>
    rcases Int.lt_trichotomy a2 0 with g1 | g1 | g1
    · have g2 : ¬ 0 < a2 := by omega
      by_cases g3 : a3 < 0
      · have g4 : ¬ 0 ≤ a2 + a3 := by omega
        go_wp2_with fail
        go_meet
        exact ⟨rfl, rfl⟩
      · go_wp2_with fail
        go_meet
        exact ⟨rfl, rfl⟩
    · have g2 : ¬ 0 < a2 := by omega
      have g3 : ¬ a2 < 0 := by omega
      clear g1
      go_wp2_with fail
      go_meet
      exact ⟨rfl, rfl⟩
    · have g2 : ¬ a2 < 0 := by omega
      by_cases g3 : 0 < a3
      · have g4 : ¬ a2 + a3 < 0 := by omega
        go_wp2_with fail
        go_meet
        exact ⟨rfl, rfl⟩
      · go_wp2_with fail
        go_meet
        exact ⟨rfl, rfl⟩
  case rest =>
    obtain ⟨rfl, rfl⟩ := hcut
    have hO := cmp_cases a2 a3
    rw [HO.out] at hO
    have cW := hide (fun w => within_any a0 a2 a3 w)
    have hW : (¬ a2 ≤ a0 ∧ Hid ((decide (a2 ≤ a0) && decide (a0 ≤ a3)) = false)) ∨ (a2 ≤ a0 ∧ decide (a0 ≤ a3) = false ∧ Hid ((decide (a2 ≤ a0) && decide (a0 ≤ a3)) = false)) ∨ (a2 ≤ a0 ∧ a0 ≤ a3 ∧ Hid ((decide (a2 ≤ a0) && decide (a0 ≤ a3)) = true)) := by
      by_cases x1 : a2 ≤ a0
      · by_cases x2 : a0 ≤ a3
        · exact .inr (.inr ⟨x1, x2, by simp [x1, x2, Hid]⟩)
        · exact .inr (.inl ⟨x1, by simpa using x2, by simp [x2, Hid]⟩)
      · exact .inl ⟨x1, by simp [x1, Hid]⟩
    rcases hO with ⟨o1, rfl⟩ | ⟨o1, o2, rfl⟩ | ⟨o1, o2, rfl⟩
    all_goals
      rcases hW with ⟨x1, x3⟩ | ⟨x1, x2, x3⟩ | ⟨x1, x2, x3⟩
      all_goals
        rw [x3.out] at cW
        clear h5 h6 lo2 hi2 lo3 hi3
        go_wp2_with (first
          | (go_at_call 21; refine (cI.out _).mono ?_; rintro e w3 ⟨rfl, hb3⟩)
          | (go_at_call 24; refine (cJ.out _).mono ?_; rintro e w4 ⟨rfl, rfl⟩)
          | (go_at_call 25; refine (cC.out _).mono ?_; rintro e w4 ⟨rfl, rfl⟩)
          | (go_at_call 26; refine (cW.out _).mono ?_; rintro e w4 ⟨rfl, rfl⟩)
          | (go_at_call 11; refine (alive03 _).mono ?_; rintro e w5 ⟨rfl, hb5⟩)
          | (go_at_call 13; go_in))
        go_ret
        exact ⟨rfl, below_step (below_step hb1 hb3) hb5⟩
set_option maxHeartbeats 4000000 in
set_option maxRecDepth 100000 in
theorem numberTells_bad (a0 : Int) (lo0 : -9223372036854775808 ≤ a0) (hi0 : a0 ≤ 9223372036854775807) (a1 : ByteArray) (s1 : a1.size ≤ 140737488351232) (a2 : Int) (lo2 : -9223372036854775808 ≤ a2) (hi2 : a2 ≤ 9223372036854775807) (a3 : Int) (lo3 : -9223372036854775808 ≤ a3) (hi3 : a3 ≤ 9223372036854775807) (w : World)
    (h5 : a2 + a3 < -9223372036854775808 ∨ 9223372036854775807 < a2 + a3) :
    Calls Try.prog 7 #[.int .i64 a0, .string a1, .int .i64 a2, .int .i64 a3] w fun e w' => e = .returned (.bool true) ∧ Below w.heap.size w w' := by
  have cP := fun w => parse_any a1 w (by omega)
  have cR := fun w => refParse_any a1 w (by omega)
  generalize pParse a1.data.toList = q at cP cR
  obtain ⟨k, f⟩ := q
  dsimp only at cP cR
  have HP := hide cP
  have HR := hide cR
  clear cP cR
  obtain ⟨p, hp⟩ : ∃ p, pInt a0 = p := ⟨_, rfl⟩
  have cI := hide (fun w => print_any a0 w lo0 hi0)
  have cJ := hide (fun w => refPrint_any a0 w lo0 hi0)
  rw [hp] at cI cJ
  have cC := hide (fun w => compare_any a2 a3 w)
  obtain ⟨o, ho⟩ : ∃ o, cmpI a2 a3 = o := ⟨_, rfl⟩
  rw [ho] at cC
  have HO := hide ho
  clear hp ho s1 lo0 hi0
  go_enter Try.func7, Try.ntmps7
  go_wp2_with fail
  refine (HP.out _).mono ?_
  rintro e w1 ⟨rfl, hb1⟩
  go_wp2_with fail
  refine (HR.out _).mono ?_
  rintro e w2 ⟨rfl, rfl⟩
  go_wp2_with fail
  refine (add_no a2 a3 _ lo2 hi2 lo3 hi3 h5).mono ?_
  rintro e w2 ⟨rfl, rfl⟩
  go_upto_region 5 with (fail)
  go_cut [16] (fun s16 wx => s16 = .bool true ∧ wx = w1)
  case first =>
    rcases h5 with h5 | h5
    · have g1 : ¬ 0 < a2 := by omega
      have g2 : a2 < 0 := by omega
      have g3 : a3 < 0 := by omega
      have g4 : 0 ≤ wrap64 (a2 + a3) := by unfold wrap64; omega
      go_wp2_with fail
      go_meet
      exact ⟨rfl, rfl⟩
    · have g1 : 0 < a2 := by omega
      have g3 : 0 < a3 := by omega
      have g4 : wrap64 (a2 + a3) < 0 := by unfold wrap64; omega
      go_wp2_with fail
      go_meet
      exact ⟨rfl, rfl⟩
  case rest =>
    obtain ⟨rfl, rfl⟩ := hcut
    have hO := cmp_cases a2 a3
    rw [HO.out] at hO
    have cW := hide (fun w => within_any a0 a2 a3 w)
    have hW : (¬ a2 ≤ a0 ∧ Hid ((decide (a2 ≤ a0) && decide (a0 ≤ a3)) = false)) ∨ (a2 ≤ a0 ∧ decide (a0 ≤ a3) = false ∧ Hid ((decide (a2 ≤ a0) && decide (a0 ≤ a3)) = false)) ∨ (a2 ≤ a0 ∧ a0 ≤ a3 ∧ Hid ((decide (a2 ≤ a0) && decide (a0 ≤ a3)) = true)) := by
      by_cases x1 : a2 ≤ a0
      · by_cases x2 : a0 ≤ a3
        · exact .inr (.inr ⟨x1, x2, by simp [x1, x2, Hid]⟩)
        · exact .inr (.inl ⟨x1, by simpa using x2, by simp [x2, Hid]⟩)
      · exact .inl ⟨x1, by simp [x1, Hid]⟩
    rcases hO with ⟨o1, rfl⟩ | ⟨o1, o2, rfl⟩ | ⟨o1, o2, rfl⟩
    all_goals
      rcases hW with ⟨x1, x3⟩ | ⟨x1, x2, x3⟩ | ⟨x1, x2, x3⟩
      all_goals
        rw [x3.out] at cW
        clear h5 lo2 hi2 lo3 hi3
        go_wp2_with (first
          | (go_at_call 21; refine (cI.out _).mono ?_; rintro e w3 ⟨rfl, hb3⟩)
          | (go_at_call 24; refine (cJ.out _).mono ?_; rintro e w4 ⟨rfl, rfl⟩)
          | (go_at_call 25; refine (cC.out _).mono ?_; rintro e w4 ⟨rfl, rfl⟩)
          | (go_at_call 26; refine (cW.out _).mono ?_; rintro e w4 ⟨rfl, rfl⟩)
          | (go_at_call 11; refine (alive03 _).mono ?_; rintro e w5 ⟨rfl, hb5⟩)
          | (go_at_call 13; go_in))
        go_ret
        exact ⟨rfl, below_step (below_step hb1 hb3) hb5⟩

theorem numberTells_walk (a0 : Int) (lo0 : -9223372036854775808 ≤ a0) (hi0 : a0 ≤ 9223372036854775807) (a1 : ByteArray) (s1 : a1.size ≤ 140737488351232) (a2 : Int) (lo2 : -9223372036854775808 ≤ a2) (hi2 : a2 ≤ 9223372036854775807) (a3 : Int) (lo3 : -9223372036854775808 ≤ a3) (hi3 : a3 ≤ 9223372036854775807) (w : World) :
    Calls Try.prog 7 #[.int .i64 a0, .string a1, .int .i64 a2, .int .i64 a3] w fun e w' => e = .returned (.bool true) ∧ Below w.heap.size w w' := by
  by_cases h : -9223372036854775808 ≤ a2 + a3 ∧ a2 + a3 ≤ 9223372036854775807
  · exact numberTells_ok a0 lo0 hi0 a1 s1 a2 lo2 hi2 a3 lo3 hi3 w h.1 h.2
  · exact numberTells_bad a0 lo0 hi0 a1 s1 a2 lo2 hi2 a3 lo3 hi3 w (by omega)
end Go.Proofs.Ytmgjhofecncgnaa
