/-
  The page's machine of scripts: Script.
-/
import Derived.Test.YtdnmgpidfjkiaaaDoorScriptA
namespace Go.Proofs.YtdnmgpidfjkiaaaDoor
open Go.RowKit
set_option linter.unusedVariables false
set_option linter.unusedSimpArgs false

theorem step14_2 (w : List UInt8) (c : UInt8) : stepB (2, w) c = (if (c.toNat : Int) == 34 then 1 else if (c.toNat : Int) == 92 then 4 else if ((c.toNat : Int) == 10 || (c.toNat : Int) == 13) then 15 else 2, []) := by
  have h := eq_of_beq (allBytes (fun c => (stepB (2, []) c).1 == (if (c.toNat : Int) == 34 then 1 else if (c.toNat : Int) == 92 then 4 else if ((c.toNat : Int) == 10 || (c.toNat : Int) == 13) then 15 else 2)) (by decide +kernel) c)
  rw [← h]; rfl
set_option maxHeartbeats 2000000 in
set_option maxRecDepth 100000 in
theorem script_2 (word : ByteArray) (c : UInt8) (w : World) :
    Calls Tryd.prog 50 #[.int .i64 2, .string word, .int .u8 (c.toNat : Int)] w fun e w' => e = .returned (.tuple #[.int .i64 (((if (c.toNat : Int) == 34 then 1 else if (c.toNat : Int) == 92 then 4 else if ((c.toNat : Int) == 10 || (c.toNat : Int) == 13) then 15 else 2 : Nat)) : Int), .string ⟨#[]⟩]) ∧ Below w.heap.size w w' := by
  obtain ⟨R, hR⟩ : ∃ R : Nat, (if (c.toNat : Int) == 34 then 1 else if (c.toNat : Int) == 92 then 4 else if ((c.toNat : Int) == 10 || (c.toNat : Int) == 13) then 15 else 2) = R := ⟨_, rfl⟩
  rw [hR]
  have HR := hide hR
  clear hR
  go_enter Tryd.func50, Tryd.ntmps50
  go_wp2_with fail
  all_goals first
    | (exfalso; simp_all; done)
    | (go_ret2; refine ⟨?_, Below.refl _ _⟩; rw [← HR.out]; clear HR; simp_all; done)
theorem step14_3 (w : List UInt8) (c : UInt8) : stepB (3, w) c = (if (c.toNat : Int) == 39 then 1 else if (c.toNat : Int) == 92 then 5 else if ((c.toNat : Int) == 10 || (c.toNat : Int) == 13) then 15 else 3, []) := by
  have h := eq_of_beq (allBytes (fun c => (stepB (3, []) c).1 == (if (c.toNat : Int) == 39 then 1 else if (c.toNat : Int) == 92 then 5 else if ((c.toNat : Int) == 10 || (c.toNat : Int) == 13) then 15 else 3)) (by decide +kernel) c)
  rw [← h]; rfl
set_option maxHeartbeats 2000000 in
set_option maxRecDepth 100000 in
theorem script_3 (word : ByteArray) (c : UInt8) (w : World) :
    Calls Tryd.prog 50 #[.int .i64 3, .string word, .int .u8 (c.toNat : Int)] w fun e w' => e = .returned (.tuple #[.int .i64 (((if (c.toNat : Int) == 39 then 1 else if (c.toNat : Int) == 92 then 5 else if ((c.toNat : Int) == 10 || (c.toNat : Int) == 13) then 15 else 3 : Nat)) : Int), .string ⟨#[]⟩]) ∧ Below w.heap.size w w' := by
  obtain ⟨R, hR⟩ : ∃ R : Nat, (if (c.toNat : Int) == 39 then 1 else if (c.toNat : Int) == 92 then 5 else if ((c.toNat : Int) == 10 || (c.toNat : Int) == 13) then 15 else 3) = R := ⟨_, rfl⟩
  rw [hR]
  have HR := hide hR
  clear hR
  go_enter Tryd.func50, Tryd.ntmps50
  go_wp2_with fail
  all_goals first
    | (exfalso; simp_all; done)
    | (go_ret2; refine ⟨?_, Below.refl _ _⟩; rw [← HR.out]; clear HR; simp_all; done)
theorem step14_4 (w : List UInt8) (c : UInt8) : stepB (4, w) c = (2, []) := by
  have h := eq_of_beq (allBytes (fun c => (stepB (4, []) c).1 == (2)) (by decide +kernel) c)
  rw [← h]; rfl
set_option maxHeartbeats 2000000 in
set_option maxRecDepth 100000 in
theorem script_4 (word : ByteArray) (c : UInt8) (w : World) :
    Calls Tryd.prog 50 #[.int .i64 4, .string word, .int .u8 (c.toNat : Int)] w fun e w' => e = .returned (.tuple #[.int .i64 (((2 : Nat)) : Int), .string ⟨#[]⟩]) ∧ Below w.heap.size w w' := by
  obtain ⟨R, hR⟩ : ∃ R : Nat, (2) = R := ⟨_, rfl⟩
  rw [hR]
  have HR := hide hR
  clear hR
  go_enter Tryd.func50, Tryd.ntmps50
  go_wp2_with fail
  all_goals first
    | (exfalso; simp_all; done)
    | (go_ret2; refine ⟨?_, Below.refl _ _⟩; rw [← HR.out]; clear HR; simp_all; done)
theorem step14_5 (w : List UInt8) (c : UInt8) : stepB (5, w) c = (3, []) := by
  have h := eq_of_beq (allBytes (fun c => (stepB (5, []) c).1 == (3)) (by decide +kernel) c)
  rw [← h]; rfl
set_option maxHeartbeats 2000000 in
set_option maxRecDepth 100000 in
theorem script_5 (word : ByteArray) (c : UInt8) (w : World) :
    Calls Tryd.prog 50 #[.int .i64 5, .string word, .int .u8 (c.toNat : Int)] w fun e w' => e = .returned (.tuple #[.int .i64 (((3 : Nat)) : Int), .string ⟨#[]⟩]) ∧ Below w.heap.size w w' := by
  obtain ⟨R, hR⟩ : ∃ R : Nat, (3) = R := ⟨_, rfl⟩
  rw [hR]
  have HR := hide hR
  clear hR
  go_enter Tryd.func50, Tryd.ntmps50
  go_wp2_with fail
  all_goals first
    | (exfalso; simp_all; done)
    | (go_ret2; refine ⟨?_, Below.refl _ _⟩; rw [← HR.out]; clear HR; simp_all; done)
theorem step14_6 (w : List UInt8) (c : UInt8) : stepB (6, w) c = (if ((c.toNat : Int) == 10 || (c.toNat : Int) == 13) then 0 else 6, []) := by
  have h := eq_of_beq (allBytes (fun c => (stepB (6, []) c).1 == (if ((c.toNat : Int) == 10 || (c.toNat : Int) == 13) then 0 else 6)) (by decide +kernel) c)
  rw [← h]; rfl
set_option maxHeartbeats 2000000 in
set_option maxRecDepth 100000 in
theorem script_6 (word : ByteArray) (c : UInt8) (w : World) :
    Calls Tryd.prog 50 #[.int .i64 6, .string word, .int .u8 (c.toNat : Int)] w fun e w' => e = .returned (.tuple #[.int .i64 (((if ((c.toNat : Int) == 10 || (c.toNat : Int) == 13) then 0 else 6 : Nat)) : Int), .string ⟨#[]⟩]) ∧ Below w.heap.size w w' := by
  obtain ⟨R, hR⟩ : ∃ R : Nat, (if ((c.toNat : Int) == 10 || (c.toNat : Int) == 13) then 0 else 6) = R := ⟨_, rfl⟩
  rw [hR]
  have HR := hide hR
  clear hR
  go_enter Tryd.func50, Tryd.ntmps50
  go_wp2_with fail
  all_goals first
    | (exfalso; simp_all; done)
    | (go_ret2; refine ⟨?_, Below.refl _ _⟩; rw [← HR.out]; clear HR; simp_all; done)
theorem step14_7 (w : List UInt8) (c : UInt8) : stepB (7, w) c = (if (c.toNat : Int) == 42 then 8 else 7, []) := by
  have h := eq_of_beq (allBytes (fun c => (stepB (7, []) c).1 == (if (c.toNat : Int) == 42 then 8 else 7)) (by decide +kernel) c)
  rw [← h]; rfl
set_option maxHeartbeats 2000000 in
set_option maxRecDepth 100000 in
theorem script_7 (word : ByteArray) (c : UInt8) (w : World) :
    Calls Tryd.prog 50 #[.int .i64 7, .string word, .int .u8 (c.toNat : Int)] w fun e w' => e = .returned (.tuple #[.int .i64 (((if (c.toNat : Int) == 42 then 8 else 7 : Nat)) : Int), .string ⟨#[]⟩]) ∧ Below w.heap.size w w' := by
  obtain ⟨R, hR⟩ : ∃ R : Nat, (if (c.toNat : Int) == 42 then 8 else 7) = R := ⟨_, rfl⟩
  rw [hR]
  have HR := hide hR
  clear hR
  go_enter Tryd.func50, Tryd.ntmps50
  go_wp2_with fail
  all_goals first
    | (exfalso; simp_all; done)
    | (go_ret2; refine ⟨?_, Below.refl _ _⟩; rw [← HR.out]; clear HR; simp_all; done)
theorem step14_8 (w : List UInt8) (c : UInt8) : stepB (8, w) c = (if (c.toNat : Int) == 42 then 8 else if (c.toNat : Int) == 47 then 0 else 7, []) := by
  have h := eq_of_beq (allBytes (fun c => (stepB (8, []) c).1 == (if (c.toNat : Int) == 42 then 8 else if (c.toNat : Int) == 47 then 0 else 7)) (by decide +kernel) c)
  rw [← h]; rfl
set_option maxHeartbeats 2000000 in
set_option maxRecDepth 100000 in
theorem script_8 (word : ByteArray) (c : UInt8) (w : World) :
    Calls Tryd.prog 50 #[.int .i64 8, .string word, .int .u8 (c.toNat : Int)] w fun e w' => e = .returned (.tuple #[.int .i64 (((if (c.toNat : Int) == 42 then 8 else if (c.toNat : Int) == 47 then 0 else 7 : Nat)) : Int), .string ⟨#[]⟩]) ∧ Below w.heap.size w w' := by
  obtain ⟨R, hR⟩ : ∃ R : Nat, (if (c.toNat : Int) == 42 then 8 else if (c.toNat : Int) == 47 then 0 else 7) = R := ⟨_, rfl⟩
  rw [hR]
  have HR := hide hR
  clear hR
  go_enter Tryd.func50, Tryd.ntmps50
  go_wp2_with fail
  all_goals first
    | (exfalso; simp_all; done)
    | (go_ret2; refine ⟨?_, Below.refl _ _⟩; rw [← HR.out]; clear HR; simp_all; done)
theorem step14_9 (w : List UInt8) (c : UInt8) : stepB (9, w) c = (if ((c.toNat : Int) == 10 || (c.toNat : Int) == 13) then 15 else if (c.toNat : Int) == 92 then 10 else if (c.toNat : Int) == 47 then 1 else if (c.toNat : Int) == 91 then 11 else 9, []) := by
  have h := eq_of_beq (allBytes (fun c => (stepB (9, []) c).1 == (if ((c.toNat : Int) == 10 || (c.toNat : Int) == 13) then 15 else if (c.toNat : Int) == 92 then 10 else if (c.toNat : Int) == 47 then 1 else if (c.toNat : Int) == 91 then 11 else 9)) (by decide +kernel) c)
  rw [← h]; rfl
set_option maxHeartbeats 2000000 in
set_option maxRecDepth 100000 in
theorem script_9 (word : ByteArray) (c : UInt8) (w : World) :
    Calls Tryd.prog 50 #[.int .i64 9, .string word, .int .u8 (c.toNat : Int)] w fun e w' => e = .returned (.tuple #[.int .i64 (((if ((c.toNat : Int) == 10 || (c.toNat : Int) == 13) then 15 else if (c.toNat : Int) == 92 then 10 else if (c.toNat : Int) == 47 then 1 else if (c.toNat : Int) == 91 then 11 else 9 : Nat)) : Int), .string ⟨#[]⟩]) ∧ Below w.heap.size w w' := by
  obtain ⟨R, hR⟩ : ∃ R : Nat, (if ((c.toNat : Int) == 10 || (c.toNat : Int) == 13) then 15 else if (c.toNat : Int) == 92 then 10 else if (c.toNat : Int) == 47 then 1 else if (c.toNat : Int) == 91 then 11 else 9) = R := ⟨_, rfl⟩
  rw [hR]
  have HR := hide hR
  clear hR
  go_enter Tryd.func50, Tryd.ntmps50
  go_wp2_with fail
  all_goals first
    | (exfalso; simp_all; done)
    | (go_ret2; refine ⟨?_, Below.refl _ _⟩; rw [← HR.out]; clear HR; simp_all; done)
theorem step14_10 (w : List UInt8) (c : UInt8) : stepB (10, w) c = (9, []) := by
  have h := eq_of_beq (allBytes (fun c => (stepB (10, []) c).1 == (9)) (by decide +kernel) c)
  rw [← h]; rfl
set_option maxHeartbeats 2000000 in
set_option maxRecDepth 100000 in
theorem script_10 (word : ByteArray) (c : UInt8) (w : World) :
    Calls Tryd.prog 50 #[.int .i64 10, .string word, .int .u8 (c.toNat : Int)] w fun e w' => e = .returned (.tuple #[.int .i64 (((9 : Nat)) : Int), .string ⟨#[]⟩]) ∧ Below w.heap.size w w' := by
  obtain ⟨R, hR⟩ : ∃ R : Nat, (9) = R := ⟨_, rfl⟩
  rw [hR]
  have HR := hide hR
  clear hR
  go_enter Tryd.func50, Tryd.ntmps50
  go_wp2_with fail
  all_goals first
    | (exfalso; simp_all; done)
    | (go_ret2; refine ⟨?_, Below.refl _ _⟩; rw [← HR.out]; clear HR; simp_all; done)
theorem step14_11 (w : List UInt8) (c : UInt8) : stepB (11, w) c = (if ((c.toNat : Int) == 10 || (c.toNat : Int) == 13) then 15 else if (c.toNat : Int) == 92 then 12 else if (c.toNat : Int) == 93 then 9 else 11, []) := by
  have h := eq_of_beq (allBytes (fun c => (stepB (11, []) c).1 == (if ((c.toNat : Int) == 10 || (c.toNat : Int) == 13) then 15 else if (c.toNat : Int) == 92 then 12 else if (c.toNat : Int) == 93 then 9 else 11)) (by decide +kernel) c)
  rw [← h]; rfl
set_option maxHeartbeats 2000000 in
set_option maxRecDepth 100000 in
theorem script_11 (word : ByteArray) (c : UInt8) (w : World) :
    Calls Tryd.prog 50 #[.int .i64 11, .string word, .int .u8 (c.toNat : Int)] w fun e w' => e = .returned (.tuple #[.int .i64 (((if ((c.toNat : Int) == 10 || (c.toNat : Int) == 13) then 15 else if (c.toNat : Int) == 92 then 12 else if (c.toNat : Int) == 93 then 9 else 11 : Nat)) : Int), .string ⟨#[]⟩]) ∧ Below w.heap.size w w' := by
  obtain ⟨R, hR⟩ : ∃ R : Nat, (if ((c.toNat : Int) == 10 || (c.toNat : Int) == 13) then 15 else if (c.toNat : Int) == 92 then 12 else if (c.toNat : Int) == 93 then 9 else 11) = R := ⟨_, rfl⟩
  rw [hR]
  have HR := hide hR
  clear hR
  go_enter Tryd.func50, Tryd.ntmps50
  go_wp2_with fail
  all_goals first
    | (exfalso; simp_all; done)
    | (go_ret2; refine ⟨?_, Below.refl _ _⟩; rw [← HR.out]; clear HR; simp_all; done)
theorem step14_12 (w : List UInt8) (c : UInt8) : stepB (12, w) c = (11, []) := by
  have h := eq_of_beq (allBytes (fun c => (stepB (12, []) c).1 == (11)) (by decide +kernel) c)
  rw [← h]; rfl
set_option maxHeartbeats 2000000 in
set_option maxRecDepth 100000 in
theorem script_12 (word : ByteArray) (c : UInt8) (w : World) :
    Calls Tryd.prog 50 #[.int .i64 12, .string word, .int .u8 (c.toNat : Int)] w fun e w' => e = .returned (.tuple #[.int .i64 (((11 : Nat)) : Int), .string ⟨#[]⟩]) ∧ Below w.heap.size w w' := by
  obtain ⟨R, hR⟩ : ∃ R : Nat, (11) = R := ⟨_, rfl⟩
  rw [hR]
  have HR := hide hR
  clear hR
  go_enter Tryd.func50, Tryd.ntmps50
  go_wp2_with fail
  all_goals first
    | (exfalso; simp_all; done)
    | (go_ret2; refine ⟨?_, Below.refl _ _⟩; rw [← HR.out]; clear HR; simp_all; done)
theorem step14_13 (w : List UInt8) (c : UInt8) : stepB (13, w) c = (if (c.toNat : Int) == 47 then 6 else if (c.toNat : Int) == 42 then 7 else if ((c.toNat : Int) == 10 || (c.toNat : Int) == 13) then 15 else if (c.toNat : Int) == 92 then 10 else if (c.toNat : Int) == 47 then 1 else if (c.toNat : Int) == 91 then 11 else 9, []) := by
  have h := eq_of_beq (allBytes (fun c => (stepB (13, []) c).1 == (if (c.toNat : Int) == 47 then 6 else if (c.toNat : Int) == 42 then 7 else if ((c.toNat : Int) == 10 || (c.toNat : Int) == 13) then 15 else if (c.toNat : Int) == 92 then 10 else if (c.toNat : Int) == 47 then 1 else if (c.toNat : Int) == 91 then 11 else 9)) (by decide +kernel) c)
  have h2 : (stepB (13, w) c).2 = [] := by
    show (slashedB 13 c).2 = []
    unfold slashedB
    split
    · rfl
    · split
      · rfl
      · rfl
  exact Prod.ext h h2
set_option maxHeartbeats 2000000 in
set_option maxRecDepth 100000 in
theorem script_13 (word : ByteArray) (c : UInt8) (w : World) :
    Calls Tryd.prog 50 #[.int .i64 13, .string word, .int .u8 (c.toNat : Int)] w fun e w' => e = .returned (.tuple #[.int .i64 (((if (c.toNat : Int) == 47 then 6 else if (c.toNat : Int) == 42 then 7 else if ((c.toNat : Int) == 10 || (c.toNat : Int) == 13) then 15 else if (c.toNat : Int) == 92 then 10 else if (c.toNat : Int) == 47 then 1 else if (c.toNat : Int) == 91 then 11 else 9 : Nat)) : Int), .string ⟨#[]⟩]) ∧ Below w.heap.size w w' := by
  obtain ⟨R, hR⟩ : ∃ R : Nat, (if (c.toNat : Int) == 47 then 6 else if (c.toNat : Int) == 42 then 7 else if ((c.toNat : Int) == 10 || (c.toNat : Int) == 13) then 15 else if (c.toNat : Int) == 92 then 10 else if (c.toNat : Int) == 47 then 1 else if (c.toNat : Int) == 91 then 11 else 9) = R := ⟨_, rfl⟩
  rw [hR]
  have HR := hide hR
  clear hR
  go_enter Tryd.func50, Tryd.ntmps50
  go_wp2_with fail
  all_goals first
    | (exfalso; simp_all; done)
    | (go_ret2; refine ⟨?_, Below.refl _ _⟩; rw [← HR.out]; clear HR; simp_all; done)
theorem step14_15 (w : List UInt8) (c : UInt8) : stepB (15, w) c = (15, []) := by
  have h := eq_of_beq (allBytes (fun c => (stepB (15, []) c).1 == (15)) (by decide +kernel) c)
  rw [← h]; rfl
set_option maxHeartbeats 2000000 in
set_option maxRecDepth 100000 in
theorem script_15 (word : ByteArray) (c : UInt8) (w : World) :
    Calls Tryd.prog 50 #[.int .i64 15, .string word, .int .u8 (c.toNat : Int)] w fun e w' => e = .returned (.tuple #[.int .i64 (((15 : Nat)) : Int), .string ⟨#[]⟩]) ∧ Below w.heap.size w w' := by
  obtain ⟨R, hR⟩ : ∃ R : Nat, (15) = R := ⟨_, rfl⟩
  rw [hR]
  have HR := hide hR
  clear hR
  go_enter Tryd.func50, Tryd.ntmps50
  go_wp2_with fail
  all_goals first
    | (exfalso; simp_all; done)
    | (go_ret2; refine ⟨?_, Below.refl _ _⟩; rw [← HR.out]; clear HR; simp_all; done)
end Go.Proofs.YtdnmgpidfjkiaaaDoor
