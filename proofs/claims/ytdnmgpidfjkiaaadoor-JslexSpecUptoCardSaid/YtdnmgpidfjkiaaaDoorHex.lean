/-
  octets.Hex: digits of base 16.
-/
import Derived.Test.YtdnmgpidfjkiaaaDoorM1
import Derived.Test.YtdnmgpidfjkiaaaDoorRoom
import Derived.Test.YtdnmgpidfjkiaaaDoorStr
import Derived.Deep.OwnRows
import Derived.Lib.MinMax
namespace Go.Proofs.YtdnmgpidfjkiaaaDoor
open Go.RowKit
set_option linter.unusedVariables false

theorem made_room (n : Nat) : madeCells #[Value.int .u8 0] n = room n [] := by
  apply Array.toList_inj.1
  rw [toList_madeCells_one]
  simp [room, bv]
theorem info_u8 : (Tryd.prog.info? 5).map (fun i => (i.zero, i.size, i.bytes)) = some (some (.int .u8 0), 1, 1) := by kernel_rfl

theorem conv_u64 (n : Int) (W : World) : (convert 3 92 (.int .i64 n)).run Tryd.prog W = .ok (.int .u64 (hexU n : Int)) W := by
  have e : IntKind.u64.wrap n = (hexU n : Int) := by unfold hexU; simp [IntKind.wrap, IntKind.bits, IntKind.signed]; omega
  go_simp

theorem and_15 (u k : Nat) (hu : u ≤ 18446744073709551615) : bits BinOp.and IntKind.u64 ((u : Int) / 2 ^ (4 * k)) 15 = ((u / 16 ^ k % 16 : Nat) : Int) := by
  have e : ((u : Int) / 2 ^ (4 * k)) = ((u / 16 ^ k : Nat) : Int) := by
    rw [show (16 : Nat) ^ k = 2 ^ (4 * k) by rw [show (16 : Nat) = 2 ^ 4 from rfl, ← Nat.pow_mul]]
    simp
  rw [e]
  have hlt : u / 16 ^ k < 18446744073709551616 := Nat.lt_of_le_of_lt (Nat.div_le_self _ _) (by omega)
  have := u64_and_nat (u / 16 ^ k) 15 hlt (by omega)
  rw [show ((15 : Int)) = ((15 : Nat) : Int) from rfl, this]
  congr 1
  exact Nat.and_two_pow_sub_one_eq_mod _ 4
theorem hexText_ix (d : Nat) (h : d < 16) : ∀ hh, (⟨hexText.toArray⟩ : ByteArray)[d]'hh = hexd d := by
  intro hh
  have h1 := hexText_at d h
  have h2 : (⟨hexText.toArray⟩ : ByteArray).data.toList[d]? = some ((⟨hexText.toArray⟩ : ByteArray)[d]'hh) := by
    rw [List.getElem?_eq_getElem hh]; rfl
  exact Option.some.inj (h2.symm.trans h1)

set_option maxHeartbeats 1000000 in
set_option maxRecDepth 100000 in
theorem hex_any (n size : Int) (w : World) (h1 : -9223372036854775808 ≤ size) (h2 : size ≤ 9223372036854775807) :
    Calls Tryd.prog 97 #[.int .i64 n, .int .i64 size] w fun e w' => e = .returned (.string ⟨(pHex n size).toArray⟩) ∧ Below w.heap.size w w' := by
  obtain ⟨z, hz⟩ : ∃ z, hexSize size = z := ⟨_, rfl⟩
  obtain ⟨u, hu⟩ : ∃ u, hexU n = u := ⟨_, rfl⟩
  have hcv := conv_u64 n
  rw [hu] at hcv
  have hz16 := hexSize_le size
  have hu64 := hexU_lt n
  rw [hz] at hz16
  rw [hu] at hu64
  have hu64' : (u : Int) ≤ 18446744073709551615 := by omega
  have hmk := fun W => run_make_row' (P := Tryd.prog) 78 5 (.int .u8 0) 1 Tryd.underlying78 info_u8 rfl .i64 .i64 z (by omega) (by omega) W
  rw [made_room] at hmk
  have hmm : min (max size 0) 16 = (z : Int) := by rw [← hz]; unfold hexSize; omega
  have HC := hide hcv
  have HZ := hide hz
  have HU := hide hu
  unfold pHex
  rw [hz, hu]
  clear hz hu hu64 hcv
  go_enter Tryd.func97, Tryd.ntmps97
  go_wp2
  clear hmk hmm
  go_loopw [14] (fun i wr => ∃ k : Nat, i = .int .i64 (k : Int) ∧ k ≤ z ∧ Blk wr w.heap.size 5 (room (z - k) (hexs u k)) ∧ Below w.heap.size w wr) (fun i _ => z - (intOf i).toNat)
  case atStart => exact ⟨0, rfl, Nat.zero_le _, Blk.new _ _ _, (Below.refl _ _).alloc (Nat.le_refl _) _⟩
  case round =>
    obtain ⟨k, rfl, hk, hblk, hbel⟩ := hrel
    by_cases hlt : k < z
    · have hc : wr.cell? ⟨w.heap.size, z - 1 - k, none⟩ = some (.int .u8 0) := by rw [hblk.cell, show z - 1 - k = z - k - 1 by omega]; exact room_at _ _ (by omega)
      have hf : wr.frozen? ⟨w.heap.size, z - 1 - k, none⟩ = false := hblk.frozen _
      have HB := hide hblk; have HL := hide hbel; clear hblk hbel
      have hcv := HC.out
      obtain ⟨d, hd⟩ : ∃ d, u / 16 ^ k % 16 = d := ⟨_, rfl⟩
      have hd16 : d < 16 := by omega
      have hand := and_15 u k (by omega)
      rw [hd] at hand
      have hix := hexText_ix d hd16
      unfold hexText at hix
      have HD := hide hd; clear hd
      go_wp2
      go_roundw
      case rel =>
        refine ⟨k + 1, by go_num, by omega, ?_, HL.out.setCell (p := ⟨w.heap.size, z - 1 - k, none⟩) (Nat.le_refl _) _⟩
        rw [show z - (k + 1) = z - k - 1 by omega, show z - 1 - k = z - k - 1 by omega]
        show Blk _ _ _ (room (z - k - 1) (hexd (u / 16 ^ k % 16) :: hexs u k))
        rw [← HD.out, ← room_set (z - k) (hexs u k) (by omega)]
        exact HB.out.set_ _ _
      case measure => simp [intOf]; omega
    · have hkz : k = z := by omega
      rw [show z - k = 0 by omega, hkz] at hblk
      have hcv := conv_str 78 9 5 Tryd.underlying78 Tryd.underlying5 Tryd.underlying9 (c := z) (room_reads (n := z) hblk (hexs_length u z))
      have HB := hide hblk; have HL := hide hbel; clear hblk hbel hkz
      go_wp2
      go_ret
      exact ⟨rfl, HL.out⟩
end Go.Proofs.YtdnmgpidfjkiaaaDoor
