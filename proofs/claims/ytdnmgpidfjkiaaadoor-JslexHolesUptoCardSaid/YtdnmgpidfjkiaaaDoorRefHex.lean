/-
  muslinref01.Hex: the page's digits of base 16.
-/
import Derived.Test.YtdnmgpidfjkiaaaDoorM1
import Derived.Test.YtdnmgpidfjkiaaaDoorStr
import Derived.Test.YtdnmgpidfjkiaaaDoorRoom
import Derived.Deep.OwnRows
import Derived.Lib.MinMax
namespace Go.Proofs.YtdnmgpidfjkiaaaDoor
open Go.RowKit
set_option linter.unusedVariables false

theorem conv_u64r (n : Int) (W : World) : (convert 3 97 (.int .i64 n)).run Tryd.prog W = .ok (.int .u64 (hexU n : Int)) W := by
  have e : IntKind.u64.wrap n = (hexU n : Int) := by unfold hexU; simp [IntKind.wrap, IntKind.bits, IntKind.signed]; omega
  go_simp
theorem hexText_ex (d : Nat) (h : d < 16) : (⟨hexText.toArray⟩ : ByteArray).extract d (d + 1) = ⟨[hexd d].toArray⟩ := by
  rw [Lib.extract_eq]
  show ByteArray.mk ((hexText.drop d).take (d + 1 - d)).toArray = _
  rw [hexText_cut d h]

set_option maxHeartbeats 1000000 in
set_option maxRecDepth 100000 in
theorem refHex_any (n size : Int) (w : World) (h1 : -9223372036854775808 ≤ size) (h2 : size ≤ 9223372036854775807) :
    Calls Tryd.prog 54 #[.int .i64 n, .int .i64 size] w fun e w' => e = .returned (.string ⟨(pHex n size).toArray⟩) ∧ w = w' := by
  obtain ⟨z, hz⟩ : ∃ z, hexSize size = z := ⟨_, rfl⟩
  obtain ⟨u, hu⟩ : ∃ u, hexU n = u := ⟨_, rfl⟩
  have hcv := conv_u64r n
  rw [hu] at hcv
  have hz16 := hexSize_le size
  have hu64 := hexU_lt n
  rw [hz] at hz16
  rw [hu] at hu64
  have hu64' : (u : Int) ≤ 18446744073709551615 := by omega
  have hsz : (size < 0 ∧ z = 0) ∨ (¬ size < 0 ∧ 16 < size ∧ z = 16) ∨ (¬ size < 0 ∧ ¬ 16 < size ∧ size = (z : Int)) := by rw [← hz]; unfold hexSize; omega
  unfold pHex
  rw [hz, hu]
  have HU := hide hu64
  clear hz hu hu64
  rcases hsz with ⟨g1, rfl⟩ | ⟨g1, g2, rfl⟩ | ⟨g1, g2, rfl⟩
  all_goals
    go_enter Tryd.func54, Tryd.ntmps54
    go_wp2
  · clear hcv
    go_loop [5, 6, 7] (fun v o i => ∃ k : Nat, i = .int .i64 (k : Int) ∧ k ≤ 0 ∧ v = .int .u64 ((u / 16 ^ k : Nat) : Int) ∧ o = .string ⟨(hexs u k).toArray⟩) (fun _ _ i => 0 - (intOf i).toNat)
    case atStart => exact ⟨0, rfl, Nat.zero_le _, by simp, rfl⟩
    case round =>
      obtain ⟨k, rfl, hk, rfl, rfl⟩ := hrel
      by_cases hlt : (k : Int) < (0 : Int)
      · exfalso; omega
      · obtain rfl : k = 0 := by omega
        go_wp2
        go_ret
        exact ⟨rfl, rfl⟩
  · clear hcv
    go_loop [5, 6, 7] (fun v o i => ∃ k : Nat, i = .int .i64 (k : Int) ∧ k ≤ 16 ∧ v = .int .u64 ((u / 16 ^ k : Nat) : Int) ∧ o = .string ⟨(hexs u k).toArray⟩) (fun _ _ i => 16 - (intOf i).toNat)
    case atStart => exact ⟨0, rfl, Nat.zero_le _, by simp, rfl⟩
    case round =>
      obtain ⟨k, rfl, hk, rfl, rfl⟩ := hrel
      by_cases hlt : (k : Int) < (16 : Int)
      · obtain ⟨v, hv⟩ : ∃ v, u / 16 ^ k = v := ⟨_, rfl⟩
        have HV := hide hv
        have hv64 : (v : Int) ≤ 18446744073709551615 := by have := HU.out; have := Nat.div_le_self u (16 ^ k); omega
        have hv2 : v / 16 = u / 16 ^ (k + 1) := by rw [← hv, Nat.div_div_eq_div_mul, Nat.pow_succ]
        rw [hv]
        obtain ⟨lo, hlo⟩ : ∃ lo, hexs u k = lo := ⟨_, rfl⟩
        have hll : lo.length = k := by rw [← hlo]; exact hexs_length u k
        rw [hlo]
        have hx := hexText_ex (v % 16) (by omega)
        have hc := fun W => run_cat [hexd (v % 16)] lo (by simp; omega) W
        have HN := hide (show hexd (v % 16) :: lo = hexs u (k + 1) by rw [← hlo, ← hv]; rfl)
        have HV2 := hide hv2
        unfold hexText at hx
        have hll2 : lo.length ≤ 16 := by omega
        clear hv hlo hll hv2
        go_wp2
        go_round
        case rel => exact ⟨k + 1, by go_num, by omega, by rw [← HV2.out]; go_num, by rw [← HN.out]; first | rfl | exact congrArg Value.string (mk_append _ _)⟩
        case measure => simp [intOf]; omega
      · obtain rfl : k = 16 := by omega
        go_wp2
        go_ret
        exact ⟨rfl, rfl⟩
  · clear hcv
    go_loop [5, 6, 7] (fun v o i => ∃ k : Nat, i = .int .i64 (k : Int) ∧ k ≤ z ∧ v = .int .u64 ((u / 16 ^ k : Nat) : Int) ∧ o = .string ⟨(hexs u k).toArray⟩) (fun _ _ i => z - (intOf i).toNat)
    case atStart => exact ⟨0, rfl, Nat.zero_le _, by simp, rfl⟩
    case round =>
      obtain ⟨k, rfl, hk, rfl, rfl⟩ := hrel
      by_cases hlt : (k : Int) < (z : Int)
      · obtain ⟨v, hv⟩ : ∃ v, u / 16 ^ k = v := ⟨_, rfl⟩
        have HV := hide hv
        have hv64 : (v : Int) ≤ 18446744073709551615 := by have := HU.out; have := Nat.div_le_self u (16 ^ k); omega
        have hv2 : v / 16 = u / 16 ^ (k + 1) := by rw [← hv, Nat.div_div_eq_div_mul, Nat.pow_succ]
        rw [hv]
        obtain ⟨lo, hlo⟩ : ∃ lo, hexs u k = lo := ⟨_, rfl⟩
        have hll : lo.length = k := by rw [← hlo]; exact hexs_length u k
        rw [hlo]
        have hx := hexText_ex (v % 16) (by omega)
        have hc := fun W => run_cat [hexd (v % 16)] lo (by simp; omega) W
        have HN := hide (show hexd (v % 16) :: lo = hexs u (k + 1) by rw [← hlo, ← hv]; rfl)
        have HV2 := hide hv2
        unfold hexText at hx
        have hll2 : lo.length ≤ 16 := by omega
        clear hv hlo hll hv2
        go_wp2
        go_round
        case rel => exact ⟨k + 1, by go_num, by omega, by rw [← HV2.out]; go_num, by rw [← HN.out]; first | rfl | exact congrArg Value.string (mk_append _ _)⟩
        case measure => simp [intOf]; omega
      · obtain rfl : k = z := by omega
        go_wp2
        go_ret
        exact ⟨rfl, rfl⟩
end Go.Proofs.YtdnmgpidfjkiaaaDoor
