/-
  muslinref01.Print: as the page says: the same digits.
-/
import Derived.Test.YtdnmgpidfjkiaaaDoorPrint
import Derived.Test.YtdnmgpidfjkiaaaDoorStr
namespace Go.Proofs.YtdnmgpidfjkiaaaDoor
open Go.RowKit
set_option linter.unusedVariables false

/-- The page's digits, cut out of their text. -/
def tens : List UInt8 := [48, 49, 50, 51, 52, 53, 54, 55, 56, 57]
theorem tens_cut (d : Nat) (h : d < 10) : (⟨tens.toArray⟩ : ByteArray).extract d (d + 1) = ⟨[dig d].toArray⟩ := by
  rw [Lib.extract_eq]
  show ByteArray.mk ((tens.drop d).take (d + 1 - d)).toArray = _
  have : (tens.drop d).take (d + 1 - d) = [dig d] := by
    revert h
    revert d
    decide
  rw [this]

def RefPrintRel (U u : Nat) (lo : List UInt8) : Prop := u ≤ 18446744073709551615 ∧ decs U = decs u ++ lo
theorem RefPrintRel.len {U u lo} (h : RefPrintRel U u lo) (hU : U ≤ 18446744073709551615) : lo.length ≤ 19 := by
  have a := decs_len20 U hU
  have b := (decs_len20 u h.1).2
  rw [h.2, List.length_append] at a
  omega

theorem conv_neg64 (m : Nat) (h0 : 1 ≤ m) (h1 : m ≤ 9223372036854775808) : ∃ X : Int, (∀ W, (convert 3 97 (.int .i64 (-(m : Int)))).run Tryd.prog W = .ok (.int .u64 X) W) ∧ IntKind.u64.wrap (-X) = (m : Int) := by
  refine ⟨-(m : Int) + 18446744073709551616, fun W => ?_, ?_⟩
  · have e : IntKind.u64.wrap (-(m : Int)) = -(m : Int) + 18446744073709551616 := by simp [IntKind.wrap, IntKind.bits, IntKind.signed]; omega
    go_simp
  · simp [IntKind.wrap, IntKind.bits, IntKind.signed]; omega

set_option maxHeartbeats 400000 in
set_option maxRecDepth 100000 in
theorem refPrint_pos (n : Nat) (w : World) (h2 : n ≤ 9223372036854775807) :
    Calls Tryd.prog 39 #[.int .i64 n] w fun e w' => e = .returned (.string ⟨(decs n).toArray⟩) ∧ w = w' := by
  have hn : ¬ (n : Int) < 0 := by omega
  go_enter Tryd.func39, Tryd.ntmps39
  go_wp2
  go_loop [3, 4] (fun v o => ∃ (u : Nat) (lo : List UInt8), v = .int .u64 (u : Int) ∧ o = .string ⟨lo.toArray⟩ ∧ RefPrintRel n u lo)
    (fun v _ => (intOf v).toNat)
  case atStart => exact ⟨n, [], rfl, rfl, by omega, by simp⟩
  case round =>
    obtain ⟨u, lo, rfl, rfl, HR⟩ := hrel
    have hl := HR.len (by omega)
    have hu : (u : Int) ≤ 18446744073709551615 := by have := HR.1; omega
    by_cases hz : (10 : Int) ≤ (u : Int)
    · have hx := tens_cut (u % 10) (by omega)
      have hc := fun W => run_cat [dig (u % 10)] lo (by simp; omega) W
      have HN : Hid (RefPrintRel n (u / 10) (dig (u % 10) :: lo)) := ⟨by omega, by rw [HR.2, decs_big u (by omega)]; simp⟩
      have HRR := hide HR; clear HR
      unfold tens at hx
      go_wp2
      go_round
      case rel => exact ⟨u / 10, dig (u % 10) :: lo, by go_num, by first | rfl | simp, HN⟩
      case measure => simp [intOf]; omega
    · have hx := tens_cut u (by omega)
      have hc := fun W => run_cat [dig u] lo (by simp; omega) W
      have HN : Hid ([dig u] ++ lo = decs n) := by rw [HR.2, decs_small u (by omega)]; rfl
      have HRR := hide HR; clear HR
      have hu2 : (u : Int) ≤ 9 := by omega
      clear hu
      unfold tens at hx
      go_wp2
      go_ret
      exact ⟨ret_str HN, rfl⟩

set_option maxHeartbeats 400000 in
set_option maxRecDepth 100000 in
theorem refPrint_neg (m : Nat) (w : World) (h0 : 1 ≤ m) (h1 : m ≤ 9223372036854775808) :
    Calls Tryd.prog 39 #[.int .i64 (-(m : Int))] w fun e w' => e = .returned (.string ⟨(45 :: decs m).toArray⟩) ∧ w = w' := by
  obtain ⟨X, hX1, hX2⟩ := conv_neg64 m h0 h1
  have hn : -(m : Int) < 0 := by omega
  have HM := hide h1; clear h1
  go_enter Tryd.func39, Tryd.ntmps39
  go_wp2
  have HX1 := hide hX1; have HX2 := hide hX2; clear hX1 hX2
  go_loop [3, 4] (fun v o => ∃ (u : Nat) (lo : List UInt8), v = .int .u64 (u : Int) ∧ o = .string ⟨lo.toArray⟩ ∧ RefPrintRel m u lo)
    (fun v _ => (intOf v).toNat)
  case atStart => exact ⟨m, [], rfl, rfl, by have := HM.out; omega, by simp⟩
  case round =>
    obtain ⟨u, lo, rfl, rfl, HR⟩ := hrel
    have hl := HR.len (by have := HM.out; omega)
    have hu : (u : Int) ≤ 18446744073709551615 := by have := HR.1; omega
    by_cases hz : (10 : Int) ≤ (u : Int)
    · have hx := tens_cut (u % 10) (by omega)
      have hc := fun W => run_cat [dig (u % 10)] lo (by simp; omega) W
      have HN : Hid (RefPrintRel m (u / 10) (dig (u % 10) :: lo)) := ⟨by omega, by rw [HR.2, decs_big u (by omega)]; simp⟩
      have HRR := hide HR; clear HR
      unfold tens at hx
      go_wp2
      go_round
      case rel => exact ⟨u / 10, dig (u % 10) :: lo, by go_num, by first | rfl | simp, HN⟩
      case measure => simp [intOf]; omega
    · have hx := tens_cut u (by omega)
      have hc := fun W => run_cat [dig u] lo (by simp; omega) W
      have HN : Hid (45 :: ([dig u] ++ lo) = 45 :: decs m) := by rw [HR.2, decs_small u (by omega)]; rfl
      have hd := fun W => run_cat [45] ([dig u] ++ lo) (by simp; omega) W
      have HRR := hide HR; clear HR
      have hu2 : (u : Int) ≤ 9 := by omega
      clear hu
      unfold tens at hx
      go_wp2
      go_ret
      exact ⟨ret_str HN, rfl⟩

theorem refPrint_any (n : Int) (w : World) (h0 : -9223372036854775808 ≤ n) (h1 : n ≤ 9223372036854775807) :
    Calls Tryd.prog 39 #[.int .i64 n] w fun e w' => e = .returned (.string ⟨(pInt n).toArray⟩) ∧ w = w' := by
  by_cases h : n < 0
  · obtain ⟨m, rfl⟩ : ∃ m : Nat, n = -(m : Int) := ⟨n.natAbs, by omega⟩
    rw [show pInt (-(m : Int)) = 45 :: decs m by unfold pInt; rw [if_pos h]; simp]
    exact refPrint_neg m w (by omega) (by omega)
  · obtain ⟨m, rfl⟩ := Int.eq_ofNat_of_zero_le (show 0 ≤ n by omega)
    rw [show pInt (m : Int) = decs m by unfold pInt; rw [if_neg h]; simp]
    exact refPrint_pos m w (by omega)
end Go.Proofs.YtdnmgpidfjkiaaaDoor
