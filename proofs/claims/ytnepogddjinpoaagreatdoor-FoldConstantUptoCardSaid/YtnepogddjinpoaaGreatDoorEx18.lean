/-
  The page's example a{{"b"}}c: muslinref18's small functions, each at what it meets.
-/
import Derived.Test.YtnepogddjinpoaaGreatDoorProg
import Derived.WalkKit
import Derived.Test.YtnepogddjinpoaaGreatDoorM1
import Derived.LoopN
namespace Go.Proofs.YtnepogddjinpoaaGreatDoor
open Go.RowKit
set_option linter.unusedVariables false
set_option linter.unusedSimpArgs false

theorem blank_orsE (c : UInt8) : isBlank c = ((c.toNat : Int) == 32 || ((c.toNat : Int) == 9 || ((c.toNat : Int) == 10 || ((c.toNat : Int) == 12 || (c.toNat : Int) == 13)))) := by
  have := allBytes (fun c => isBlank c == ((c.toNat : Int) == 32 || ((c.toNat : Int) == 9 || ((c.toNat : Int) == 10 || ((c.toNat : Int) == 12 || (c.toNat : Int) == 13))))) (by decide +kernel) c
  simpa using this

set_option maxHeartbeats 1000000 in
theorem refBlankE_any (c : UInt8) (w : World) : Calls Tryz.prog 71 #[.int .u8 (c.toNat : Int)] w fun e w' => e = .returned (.bool (isBlank c)) ∧ w = w' := by
  have hb := blank_orsE c
  generalize (c.toNat : Int) = x at hb ⊢
  rcases Bool.eq_false_or_eq_true (x == 32) with e0 | e0
  · rw [show isBlank c = true by rw [hb]; simp [e0]]
    clear hb
    go_enter Tryz.func71, Tryz.ntmps71
    go_wp2
    go_ret
    exact ⟨rfl, rfl⟩
  rcases Bool.eq_false_or_eq_true (x == 9) with e1 | e1
  · rw [show isBlank c = true by rw [hb]; simp [e0, e1]]
    clear hb
    go_enter Tryz.func71, Tryz.ntmps71
    go_wp2
    go_ret
    exact ⟨rfl, rfl⟩
  rcases Bool.eq_false_or_eq_true (x == 10) with e2 | e2
  · rw [show isBlank c = true by rw [hb]; simp [e0, e1, e2]]
    clear hb
    go_enter Tryz.func71, Tryz.ntmps71
    go_wp2
    go_ret
    exact ⟨rfl, rfl⟩
  rcases Bool.eq_false_or_eq_true (x == 12) with e3 | e3
  · rw [show isBlank c = true by rw [hb]; simp [e0, e1, e2, e3]]
    clear hb
    go_enter Tryz.func71, Tryz.ntmps71
    go_wp2
    go_ret
    exact ⟨rfl, rfl⟩
  rcases Bool.eq_false_or_eq_true (x == 13) with e4 | e4
  · rw [show isBlank c = true by rw [hb]; simp [e0, e1, e2, e3, e4]]
    clear hb
    go_enter Tryz.func71, Tryz.ntmps71
    go_wp2
    go_ret
    exact ⟨rfl, rfl⟩
  rw [show isBlank c = false by rw [hb]; simp [e0, e1, e2, e3, e4]]
  clear hb
  go_enter Tryz.func71, Tryz.ntmps71
  go_wp2
  go_ret
  exact ⟨rfl, rfl⟩



set_option maxHeartbeats 1000000 in
set_option maxRecDepth 100000 in
theorem find_ex1 (w : World) : Calls Tryz.prog 67 #[.string ⟨#[97, 123, 123, 34, 98, 34, 125, 125, 99]⟩, .string ⟨#[123, 123]⟩] w fun e w' => e = .returned (.int .i64 1) ∧ w = w' := by
  have h0 : (((⟨#[97, 123, 123, 34, 98, 34, 125, 125, 99]⟩ : ByteArray).extract 0 2).toList == [123, 123]) = false := by decide +kernel
  have h1 : (((⟨#[97, 123, 123, 34, 98, 34, 125, 125, 99]⟩ : ByteArray).extract 1 3).toList == [123, 123]) = true := by decide +kernel
  go_enter Tryz.func67, Tryz.ntmps67
  go_wp2_with fail
  refine wp_loop_rounds 2 ?_
  rw [rounds_succ]
  go_wp2_with fail
  rw [rounds_succ]
  go_wp2_with fail
  go_ret
  exact ⟨by first | rfl | (simp only [h0, h1]; rfl) | (simp [h0, h1]; done), rfl⟩
set_option maxHeartbeats 1000000 in
set_option maxRecDepth 100000 in
theorem find_ex2 (w : World) : Calls Tryz.prog 67 #[.string ⟨#[99]⟩, .string ⟨#[123, 123]⟩] w fun e w' => e = .returned (.int .i64 (-1)) ∧ w = w' := by
  go_enter Tryz.func67, Tryz.ntmps67
  go_wp2_with fail
  refine wp_loop_rounds 1 ?_
  rw [rounds_succ]
  go_wp2_with fail
  go_ret
  exact ⟨by first | rfl | (simp only []; rfl) | (simp []; done), rfl⟩
set_option maxHeartbeats 1000000 in
set_option maxRecDepth 100000 in
theorem begins_m (w : World) : Calls Tryz.prog 69 #[.string ⟨#[45]⟩, .string ⟨#[34, 98, 34, 125, 125, 99]⟩] w fun e w' => e = .returned (.bool false) ∧ w = w' := by
  have h0 : (((⟨#[34, 98, 34, 125, 125, 99]⟩ : ByteArray).extract 0 1).toList == [45]) = false := by decide +kernel
  go_enter Tryz.func69, Tryz.ntmps69
  go_wp2_with fail
  go_ret
  exact ⟨by first | rfl | (simp only [h0]; rfl) | (simp [h0]; done), rfl⟩
set_option maxHeartbeats 1000000 in
set_option maxRecDepth 100000 in
theorem begins_r (w : World) : Calls Tryz.prog 69 #[.string ⟨#[47, 42]⟩, .string ⟨#[34, 98, 34, 125, 125, 99]⟩] w fun e w' => e = .returned (.bool false) ∧ w = w' := by
  have h0 : (((⟨#[34, 98, 34, 125, 125, 99]⟩ : ByteArray).extract 0 2).toList == [47, 42]) = false := by decide +kernel
  go_enter Tryz.func69, Tryz.ntmps69
  go_wp2_with fail
  go_ret
  exact ⟨by first | rfl | (simp only [h0]; rfl) | (simp [h0]; done), rfl⟩
set_option maxHeartbeats 1000000 in
set_option maxRecDepth 100000 in
theorem begins_e (w : World) : Calls Tryz.prog 69 #[.string ⟨#[125, 125]⟩, .string ⟨#[125, 125, 99]⟩] w fun e w' => e = .returned (.bool true) ∧ w = w' := by
  have h0 : (((⟨#[125, 125, 99]⟩ : ByteArray).extract 0 2).toList == [125, 125]) = true := by decide +kernel
  go_enter Tryz.func69, Tryz.ntmps69
  go_wp2_with fail
  go_ret
  exact ⟨by first | rfl | (simp only [h0]; rfl) | (simp [h0]; done), rfl⟩
set_option maxHeartbeats 1000000 in
set_option maxRecDepth 100000 in
theorem skip_ex (w : World) : Calls Tryz.prog 68 #[.string ⟨#[97, 123, 123, 34, 98, 34, 125, 125, 99]⟩, .int .i64 3] w fun e w' => e = .returned (.int .i64 3) ∧ w = w' := by
  have h0 : isBlank ((⟨#[97, 123, 123, 34, 98, 34, 125, 125, 99]⟩ : ByteArray)[3]'(by decide)) = false := by decide +kernel
  go_enter Tryz.func68, Tryz.ntmps68
  go_wp2_with (first | (go_at_call 71; refine (refBlankE_any _ _).mono ?_; rintro e w1 ⟨rfl, rfl⟩))
  refine wp_loop_rounds 1 ?_
  rw [rounds_succ]
  go_wp2_with (first | (go_at_call 71; refine (refBlankE_any _ _).mono ?_; rintro e w1 ⟨rfl, rfl⟩))
  go_ret
  exact ⟨by first | rfl | (simp only [h0]; rfl) | (simp [h0]; done), rfl⟩
set_option maxHeartbeats 4000000 in
set_option maxRecDepth 100000 in
theorem closes_ex (w : World) : Calls Tryz.prog 70 #[.string ⟨#[97, 123, 123, 34, 98, 34, 125, 125, 99]⟩, .int .i64 3] w fun e w' => e = .returned (.int .i64 6) ∧ w = w' := by
  go_enter Tryz.func70, Tryz.ntmps70
  go_wp2_with (first | (go_at_call 69; refine (begins_e _).mono ?_; rintro e w1 ⟨rfl, rfl⟩))
  refine wp_loop_rounds 4 ?_
  rw [rounds_succ]
  go_wp2_with (first | (go_at_call 69; refine (begins_e _).mono ?_; rintro e w1 ⟨rfl, rfl⟩))
  rw [rounds_succ]
  go_wp2_with (first | (go_at_call 69; refine (begins_e _).mono ?_; rintro e w1 ⟨rfl, rfl⟩))
  rw [rounds_succ]
  go_wp2_with (first | (go_at_call 69; refine (begins_e _).mono ?_; rintro e w1 ⟨rfl, rfl⟩))
  rw [rounds_succ]
  go_wp2_with (first | (go_at_call 69; refine (begins_e _).mono ?_; rintro e w1 ⟨rfl, rfl⟩))
  go_ret
  exact ⟨by first | rfl | (simp only []; rfl) | (simp []; done), rfl⟩
set_option maxHeartbeats 1000000 in
set_option maxRecDepth 100000 in
theorem trim_ex (w : World) : Calls Tryz.prog 73 #[.string ⟨#[34, 98, 34]⟩] w fun e w' => e = .returned (.string ⟨#[34, 98, 34]⟩) ∧ w = w' := by
  have h0 : isBlank ((⟨#[34, 98, 34]⟩ : ByteArray)[0]'(by decide)) = false := by decide +kernel
  have h1 : isBlank ((⟨#[34, 98, 34]⟩ : ByteArray)[2]'(by decide)) = false := by decide +kernel
  go_enter Tryz.func73, Tryz.ntmps73
  go_wp2_with (first | (go_at_call 71; refine (refBlankE_any _ _).mono ?_; rintro e w1 ⟨rfl, rfl⟩))
  refine wp_loop_rounds 1 ?_
  rw [rounds_succ]
  go_wp2_with (first | (go_at_call 71; refine (refBlankE_any _ _).mono ?_; rintro e w1 ⟨rfl, rfl⟩))
  refine wp_loop_rounds 1 ?_
  rw [rounds_succ]
  go_wp2_with (first | (go_at_call 71; refine (refBlankE_any _ _).mono ?_; rintro e w1 ⟨rfl, rfl⟩))
  go_ret
  exact ⟨by first | rfl | (simp only [h0, h1]; rfl) | (simp [h0, h1]; done), rfl⟩
end Go.Proofs.YtnepogddjinpoaaGreatDoor
