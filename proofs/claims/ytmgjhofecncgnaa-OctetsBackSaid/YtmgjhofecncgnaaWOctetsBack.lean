/-
  OctetsBack: a number of 32 bits comes back from its eight digits, in small letters and great ones. THE WALK.
-/
import Derived.Test.YtmgjhofecncgnaaLaw01
import Derived.Test.YtmgjhofecncgnaaUnhex
namespace Go.Proofs.Ytmgjhofecncgnaa
open Go.RowKit
set_option linter.unusedVariables false

theorem hexV_hexd (d : Nat) (h : d < 16) : hexV (hexd d) = (d : Int) ∧ hexV (greatB (hexd d)) = (d : Int) := by
  revert h; revert d; decide
theorem hexFrom_hexs (u : Nat) (f : UInt8 → UInt8) (hf : ∀ d, d < 16 → hexV (f (hexd d)) = (d : Int)) : ∀ k n, hexFrom n ((hexs u k).map f) = n * 16 ^ k + u % 16 ^ k := by
  intro k
  induction k with
  | zero => intro n; simp [hexs, hexFrom_nil, Nat.mod_one]
  | succ k ih =>
    intro n
    show hexFrom n (f (hexd (u / 16 ^ k % 16)) :: (hexs u k).map f) = _
    rw [hexFrom_cons, hf _ (by omega), ih, Int.toNat_natCast, Nat.pow_succ, Nat.mod_mul]
    generalize u / 16 ^ k % 16 = d
    generalize u % 16 ^ k = r
    generalize 16 ^ k = p
    rw [Nat.add_mul, Nat.mul_assoc, Nat.mul_comm 16 p, Nat.mul_comm d p]
    omega
theorem pUnhex_hexs (u : Nat) (hu : u < 4294967296) (f : UInt8 → UInt8) (hf : ∀ d, d < 16 → hexV (f (hexd d)) = (d : Int)) : pUnhex ((hexs u 8).map f) = ((u : Int), 0) := by
  have hl : ((hexs u 8).map f).length = 8 := by simp [hexs_length]
  have hall : ∀ k, ((hexs u k).map f).all isHex = true := by
    intro k
    induction k with
    | zero => rfl
    | succ k ih =>
      show (f (hexd (u / 16 ^ k % 16)) :: (hexs u k).map f).all isHex = true
      rw [List.all_cons, ih]
      have hd : u / 16 ^ k % 16 < 16 := by omega
      generalize u / 16 ^ k % 16 = d at hd
      simp [isHex, hf d hd]
  unfold pUnhex
  rw [if_neg (by intro e; rw [e] at hl; simp at hl), if_neg (by omega), if_pos (hall 8), hexFrom_hexs u f hf]
  have : u % 16 ^ 8 = u := Nat.mod_eq_of_lt (by omega)
  rw [this]
  simp

set_option maxHeartbeats 1000000 in
set_option maxRecDepth 100000 in
theorem octetsBack_walk (a0 : Int) (lo0 : 0 ≤ a0) (hi0 : a0 ≤ 4294967295) (w : World) :
    Calls Try.prog 6 #[.int .u32 a0] w fun e w' => e = .returned (.bool true) ∧ Below w.heap.size w w' := by
  obtain ⟨u, rfl⟩ := Int.eq_ofNat_of_zero_le lo0
  have hu : u < 4294967296 := by omega
  have cH := fun w => hex_any (u : Int) 8 w (by omega) (by omega)
  rw [show pHex (u : Int) 8 = hexs u 8 by
    unfold pHex
    rw [show hexU (u : Int) = u by unfold hexU; omega, show hexSize 8 = 8 by decide]] at cH
  have hl8 := hexs_length u 8
  have hU1 := pUnhex_hexs u hu id (fun d h => (hexV_hexd d h).1)
  rw [List.map_id] at hU1
  have hU2 := pUnhex_hexs u hu greatB (fun d h => (hexV_hexd d h).2)
  generalize hexs u 8 = p at cH hl8 hU1 hU2
  have cU := fun w => unhex_any ⟨p.toArray⟩ w (by rw [mk_size]; omega)
  rw [show pUnhex (ByteArray.mk p.toArray).data.toList = ((u : Int), 0) from hU1] at cU
  have cG := fun w => upper_any ⟨p.toArray⟩ w (by rw [mk_size]; omega)
  rw [show (List.map greatB (ByteArray.mk p.toArray).data.toList) = p.map greatB from rfl] at cG
  have cV := fun w => unhex_any ⟨(p.map greatB).toArray⟩ w (by rw [mk_size]; simp; omega)
  rw [show pUnhex (ByteArray.mk (p.map greatB).toArray).data.toList = ((u : Int), 0) from hU2] at cV
  dsimp only at cU cV
  have hsz : (⟨p.toArray⟩ : ByteArray).size = 8 := by rw [mk_size]; exact hl8
  generalize p.map greatB = q at cG cV
  have cH := hide cH; have cU := hide cU; have cG := hide cG; have cV := hide cV
  clear hU1 hU2 hl8 hu
  go_enter Try.func6, Try.ntmps6
  go_wp2_with fail
  refine (alive01 _).mono ?_
  rintro e w1 ⟨rfl, hb1⟩
  go_wp2_with fail
  refine (cH.out _).mono ?_
  rintro e w2 ⟨rfl, hb2⟩
  go_wp2_with fail
  refine (cU.out _).mono ?_
  rintro e w3 ⟨rfl, hb3⟩
  go_wp2_with fail
  refine (cG.out _).mono ?_
  rintro e w4 ⟨rfl, hb4⟩
  go_wp2_with fail
  refine (cV.out _).mono ?_
  rintro e w5 ⟨rfl, hb5⟩
  go_wp2_with (go_at_call 18; go_in)
  go_ret
  exact ⟨rfl, below_step (below_step (below_step (below_step hb1 hb2) hb3) hb4) hb5⟩
end Go.Proofs.Ytmgjhofecncgnaa
