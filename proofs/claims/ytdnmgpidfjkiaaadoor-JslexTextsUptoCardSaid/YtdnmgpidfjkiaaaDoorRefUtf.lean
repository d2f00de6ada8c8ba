/-
  muslinref01: size, Encode, Decode.
-/
import Derived.Test.YtdnmgpidfjkiaaaDoorM1
import Derived.Test.YtdnmgpidfjkiaaaDoorCut
import Derived.Test.YtdnmgpidfjkiaaaDoorQB
import Derived.RegionTactic
import Derived.Outline
namespace Go.Proofs.YtdnmgpidfjkiaaaDoor
open Go.RowKit
set_option linter.unusedVariables false
set_option linter.unusedSimpArgs false

set_option maxHeartbeats 1000000 in
theorem sizeR_any (b : UInt8) (w : World) : Calls Tryd.prog 108 #[.int .u8 (b.toNat : Int)] w fun e w' => e = .returned (.int .i64 (sizeR b : Int)) ∧ w = w' := by
  have hb := b.toNat_lt
  by_cases h1 : (b.toNat : Int) < 128
  · rw [show sizeR b = 1 by unfold sizeR; rw [if_pos (by omega)]]
    go_enter Tryd.func108, Tryd.ntmps108
    go_wp2
    go_ret
    exact ⟨rfl, rfl⟩
  · have h1' : 128 ≤ (b.toNat : Int) := by omega
    by_cases h2 : (194 : Int) ≤ (b.toNat : Int)
    · by_cases h3 : (b.toNat : Int) < 224
      · rw [show sizeR b = 2 by unfold sizeR; rw [if_neg (by omega), if_pos (by omega)]]
        go_enter Tryd.func108, Tryd.ntmps108
        go_wp2
        go_ret
        exact ⟨rfl, rfl⟩
      · have h3' : (224 : Int) ≤ (b.toNat : Int) := by omega
        have h3d : decide ((b.toNat : Int) < 224) = false := by simpa using h3
        by_cases h4 : (b.toNat : Int) < 240
        · rw [show sizeR b = 3 by unfold sizeR; rw [if_neg (by omega), if_neg (by omega), if_pos (by omega)]]
          clear h3
          go_enter Tryd.func108, Tryd.ntmps108
          go_wp2
          go_ret
          exact ⟨rfl, rfl⟩
        · have h4' : (240 : Int) ≤ (b.toNat : Int) := by omega
          have h4d : decide ((b.toNat : Int) < 240) = false := by simpa using h4
          by_cases h5 : (b.toNat : Int) < 245
          · rw [show sizeR b = 4 by unfold sizeR; rw [if_neg (by omega), if_neg (by omega), if_neg (by omega), if_pos (by omega)]]
            clear h3 h4
            go_enter Tryd.func108, Tryd.ntmps108
            go_wp2
            go_ret
            exact ⟨rfl, rfl⟩
          · have h5d : decide ((b.toNat : Int) < 245) = false := by simpa using h5
            rw [show sizeR b = 0 by unfold sizeR; rw [if_neg (by omega), if_neg (by omega), if_neg (by omega), if_neg (by omega)]]
            clear h3 h4 h5
            go_enter Tryd.func108, Tryd.ntmps108
            go_wp2
            go_ret
            exact ⟨rfl, rfl⟩
    · have h2d : decide ((194 : Int) ≤ (b.toNat : Int)) = false := by simpa using h2
      have h2e : decide ((224 : Int) ≤ (b.toNat : Int)) = false := by simp; omega
      have h2f : decide ((240 : Int) ≤ (b.toNat : Int)) = false := by simp; omega
      rw [show sizeR b = 0 by unfold sizeR; rw [if_neg (by omega), if_neg (by omega), if_neg (by omega), if_neg (by omega)]]
      clear h2
      go_enter Tryd.func108, Tryd.ntmps108
      go_wp2
      go_ret
      exact ⟨rfl, rfl⟩
/-- A slice of octets just made, as a string. -/
theorem conv_new (w : World) (cs : List UInt8) (xs : Array Value) (n : Nat) (h : xs.toList = bv cs) (hn : cs.length = n) :
    (convert 78 9 (.slice (some ⟨w.heap.size, 0, none⟩) n n)).run Tryd.prog (w.alloc (.cells xs 5)) = .ok (.string ⟨cs.toArray⟩) (w.alloc (.cells xs 5)) := by
  refine conv_str 78 9 5 Tryd.underlying78 Tryd.underlying5 Tryd.underlying9 (c := n) (B := w.heap.size + 1) ?_
  refine ⟨by rw [bv_length]; omega, fun _ => ⟨_, rfl, by simp, fun j u hu => ?_⟩⟩
  have hadd : (⟨w.heap.size, 0, none⟩ : Addr).add j = ⟨w.heap.size, j, none⟩ := by unfold Addr.add; split <;> simp_all
  rw [hadd, (Blk.new w 5 xs).cell j]
  rw [← h] at hu
  simpa using hu
theorem bv_u8 (l : List Nat) (h : ∀ n ∈ l, n < 256) : bv (l.map u8) = l.map fun (n : Nat) => Value.int .u8 (n : Int) := by
  unfold bv
  rw [List.map_map]
  exact List.map_congr_left fun n hn => by simp [u8_toNat (h n hn)]
set_option maxHeartbeats 2000000 in
set_option maxRecDepth 100000 in
theorem encode_ok (c : Nat) (h : badC (c : Int) = false) (w : World) : Calls Tryd.prog 56 #[.int .i64 (c : Int)] w fun e w' => e = .returned (.tuple #[.string ⟨(encR c).toArray⟩, .int .i64 0]) ∧ Below w.heap.size w w' := by
  have hb : c ≤ 1114111 ∧ (c < 55296 ∨ 57343 < c) := by simp [badC] at h; omega
  obtain ⟨hb1, hb2⟩ := hb
  clear h
  have h0 : (0 : Int) ≤ (c : Int) := by omega
  have h1 : (c : Int) ≤ 1114111 := by omega
  have d1 : decide ((c : Int) < 0) = false := by simp
  have d2 : decide ((1114111 : Int) < (c : Int)) = false := by simp; omega
  clear hb1
  by_cases k1 : (c : Int) < 128
  · have hcv := conv_new w [u8 c] #[.int .u8 (c : Int)] 1 (by simp [bv, u8_toNat (show c < 256 by omega)]) rfl
    rw [show encR c = [u8 c] by unfold encR; rw [if_pos (by omega)]]
    have d3 : decide ((55296 : Int) ≤ (c : Int)) = false := by simp; omega
    clear hb2
    go_enter Tryd.func56, Tryd.ntmps56
    go_wp2_with fail
    go_ret2
    exact ⟨rfl, (Below.refl _ _).alloc (Nat.le_refl _) _⟩
  · have k1d : decide ((c : Int) < 128) = false := by simpa using k1
    by_cases k2 : (c : Int) < 2048
    · have hcv := conv_new w [u8 (192 + c / 64), u8 (128 + c % 64)] #[.int .u8 (192 + (c : Int) / 64), .int .u8 (128 + (c : Int) % 64)] 2 (by simp [bv, u8_toNat (show 192 + c / 64 < 256 by omega), u8_toNat (show 128 + c % 64 < 256 by omega)]) rfl
      rw [show encR c = [u8 (192 + c / 64), u8 (128 + c % 64)] by unfold encR; rw [if_neg (by omega), if_pos (by omega)]]
      have d3 : decide ((55296 : Int) ≤ (c : Int)) = false := by simp; omega
      have q1 : (c : Int) / 64 < 64 := by omega
      have q2 : (0 : Int) ≤ (c : Int) / 64 := by omega
      have q3 : (c : Int) % 64 < 64 := by omega
      have q4 : (0 : Int) ≤ (c : Int) % 64 := by omega
      clear hb2 k1
      go_enter Tryd.func56, Tryd.ntmps56
      go_wp2_with fail
      go_ret2
      exact ⟨rfl, (Below.refl _ _).alloc (Nat.le_refl _) _⟩
    · have k2d : decide ((c : Int) < 2048) = false := by simpa using k2
      by_cases k3 : (c : Int) < 65536
      · have hcv := conv_new w [u8 (224 + c / 4096), u8 (128 + c / 64 % 64), u8 (128 + c % 64)] #[.int .u8 (224 + (c : Int) / 4096), .int .u8 (128 + (c : Int) / 64 % 64), .int .u8 (128 + (c : Int) % 64)] 3 (by simp [bv, u8_toNat (show 224 + c / 4096 < 256 by omega), u8_toNat (show 128 + c / 64 % 64 < 256 by omega), u8_toNat (show 128 + c % 64 < 256 by omega)]) rfl
        rw [show encR c = [u8 (224 + c / 4096), u8 (128 + c / 64 % 64), u8 (128 + c % 64)] by unfold encR; rw [if_neg (by omega), if_neg (by omega), if_pos (by omega)]]
        have q1 : (c : Int) / 4096 < 16 := by omega
        have q2 : (0 : Int) ≤ (c : Int) / 4096 := by omega
        have q3 : (c : Int) % 64 < 64 := by omega
        have q4 : (0 : Int) ≤ (c : Int) % 64 := by omega
        have q5 : (0 : Int) ≤ (c : Int) / 64 := by omega
        have q6 : (c : Int) / 64 % 64 < 64 := by omega
        have q7 : (0 : Int) ≤ (c : Int) / 64 % 64 := by omega
        by_cases k4 : (c : Int) < 55296
        · have d3 : decide ((55296 : Int) ≤ (c : Int)) = false := by simp; omega
          clear hb2 k1 k2 k4
          go_enter Tryd.func56, Tryd.ntmps56
          go_wp2_with fail
          go_ret2
          exact ⟨rfl, (Below.refl _ _).alloc (Nat.le_refl _) _⟩
        · have d3 : decide ((55296 : Int) ≤ (c : Int)) = true := by simp; omega
          have d4 : decide ((c : Int) ≤ 57343) = false := by simp; omega
          clear hb2 k1 k2 k4
          go_enter Tryd.func56, Tryd.ntmps56
          go_wp2_with fail
          go_ret2
          exact ⟨rfl, (Below.refl _ _).alloc (Nat.le_refl _) _⟩
      · have k3d : decide ((c : Int) < 65536) = false := by simpa using k3
        have hcv := conv_new w [u8 (240 + c / 262144), u8 (128 + c / 4096 % 64), u8 (128 + c / 64 % 64), u8 (128 + c % 64)] #[.int .u8 (240 + (c : Int) / 262144), .int .u8 (128 + (c : Int) / 4096 % 64), .int .u8 (128 + (c : Int) / 64 % 64), .int .u8 (128 + (c : Int) % 64)] 4 (by simp [bv, u8_toNat (show 240 + c / 262144 < 256 by omega), u8_toNat (show 128 + c / 4096 % 64 < 256 by omega), u8_toNat (show 128 + c / 64 % 64 < 256 by omega), u8_toNat (show 128 + c % 64 < 256 by omega)]) rfl
        rw [show encR c = [u8 (240 + c / 262144), u8 (128 + c / 4096 % 64), u8 (128 + c / 64 % 64), u8 (128 + c % 64)] by unfold encR; rw [if_neg (by omega), if_neg (by omega), if_neg (by omega)]]
        have q1 : (c : Int) / 262144 < 8 := by omega
        have q2 : (0 : Int) ≤ (c : Int) / 262144 := by omega
        have q3 : (c : Int) % 64 < 64 := by omega
        have q4 : (0 : Int) ≤ (c : Int) % 64 := by omega
        have q5 : (0 : Int) ≤ (c : Int) / 64 := by omega
        have q6 : (c : Int) / 64 % 64 < 64 := by omega
        have q7 : (0 : Int) ≤ (c : Int) / 64 % 64 := by omega
        have q8 : (0 : Int) ≤ (c : Int) / 4096 := by omega
        have q9 : (c : Int) / 4096 % 64 < 64 := by omega
        have q10 : (0 : Int) ≤ (c : Int) / 4096 % 64 := by omega
        have d3 : decide ((55296 : Int) ≤ (c : Int)) = true := by simp; omega
        have d4 : decide ((c : Int) ≤ 57343) = false := by simp; omega
        clear hb2 k1 k2 k3
        go_enter Tryd.func56, Tryd.ntmps56
        go_wp2_with fail
        go_ret2
        exact ⟨rfl, (Below.refl _ _).alloc (Nat.le_refl _) _⟩
set_option maxHeartbeats 1000000 in
set_option maxRecDepth 100000 in
theorem encode_bad (c : Int) (h : badC c = true) (w : World) : Calls Tryd.prog 56 #[.int .i64 c] w fun e w' => e = .returned (.tuple #[.string ⟨#[]⟩, .int .i64 4]) ∧ w = w' := by
  have hb : c < 0 ∨ 1114111 < c ∨ (55296 ≤ c ∧ c ≤ 57343) := by simp [badC] at h; omega
  clear h
  by_cases k1 : c < 0
  · clear hb
    go_enter Tryd.func56, Tryd.ntmps56
    go_wp2_with fail
    go_ret2
    exact ⟨rfl, rfl⟩
  · have d1 : decide (c < 0) = false := by simpa using k1
    by_cases k2 : 1114111 < c
    · have d2 : decide ((1114111 : Int) < c) = true := by simpa using k2
      clear hb k1 k2
      go_enter Tryd.func56, Tryd.ntmps56
      go_wp2_with fail
      go_ret2
      exact ⟨rfl, rfl⟩
    · have d2 : decide ((1114111 : Int) < c) = false := by simpa using k2
      have d3 : decide ((55296 : Int) ≤ c) = true := by simp; omega
      have d4 : decide (c ≤ 57343) = true := by simp; omega
      clear hb k1 k2
      go_enter Tryd.func56, Tryd.ntmps56
      go_wp2_with fail
      go_ret2
      exact ⟨rfl, rfl⟩
end Go.Proofs.YtdnmgpidfjkiaaaDoor
