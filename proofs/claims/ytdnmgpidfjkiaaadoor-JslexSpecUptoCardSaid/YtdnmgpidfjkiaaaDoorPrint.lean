/-
  number.Print: a number's digits.
-/
import Derived.Test.YtdnmgpidfjkiaaaDoorProg
import Derived.Test.YtdnmgpidfjkiaaaDoorM1
import Derived.Test.YtdnmgpidfjkiaaaDoorRoom
import Derived.WalkKit
import Derived.WalkSpells
import Derived.WalkLawsBesides
import Derived.Lib.SlBuf
namespace Go.Proofs.YtdnmgpidfjkiaaaDoor
open Go.RowKit
set_option linter.unusedVariables false

/-- What holds at the head of the loop: the digits of U are those of u and then lo. -/
def PrintRel (U B : Nat) (w0 : World) (p u : Nat) (lo : List UInt8) (wr : World) : Prop :=
  u ≤ 9223372036854775808 ∧ decs U = decs u ++ lo ∧ lo.length + p = 20 ∧ Blk wr B 98 (room p lo) ∧ Below w0.heap.size w0 wr
theorem PrintRel.p {U B p u w0 lo wr} (h : PrintRel U B w0 p u lo wr) (hU : U ≤ 18446744073709551615) : 1 ≤ p ∧ p ≤ 20 := by
  obtain ⟨h1, h2, h3, _⟩ := h
  have a := decs_len20 U hU
  have b := (decs_len20 u (by omega)).2
  rw [h2, List.length_append] at a
  omega
/-- One digit more. -/
theorem PrintRel.put {U B p u w0 lo wr} (h : PrintRel U B w0 p u lo wr) (hp : 1 ≤ p) (hB : w0.heap.size ≤ B) (hu : ¬ u < 10) :
    PrintRel U B w0 (p - 1) (u / 10) (dig (u % 10) :: lo) (wr.setCell ⟨B, p - 1, none⟩ (.int .u8 (48 + (u : Int) % 10))) := by
  obtain ⟨h1, h2, h3, h4, h5⟩ := h
  refine ⟨by omega, ?_, by simp; omega, ?_, h5.setCell (by simpa using hB) _⟩
  · rw [h2, decs_big u hu]; simp
  · have e : (48 + (u : Int) % 10) = ((dig (u % 10)).toNat : Int) := by rw [dig_toNat _ (by omega)]; omega
    rw [e, ← room_set p lo hp]
    exact h4.set_ _ _
/-- The last digit: the room holds all. -/
theorem PrintRel.last {U B p u w0 lo wr} (h : PrintRel U B w0 p u lo wr) (hp : 1 ≤ p) (hB : w0.heap.size ≤ B) (hu : u < 10) :
    Blk (wr.setCell ⟨B, p - 1, none⟩ (.int .u8 (48 + (u : Int) % 10))) B 98 (room (p - 1) (decs U)) ∧ Below w0.heap.size w0 (wr.setCell ⟨B, p - 1, none⟩ (.int .u8 (48 + (u : Int) % 10))) ∧ (decs U).length + (p - 1) = 20 := by
  obtain ⟨h1, h2, h3, h4, h5⟩ := h
  refine ⟨?_, h5.setCell (by simpa using hB) _, ?_⟩
  · have e : (48 + (u : Int) % 10) = ((dig u).toNat : Int) := by rw [dig_toNat _ (by omega)]; omega
    rw [e, h2, decs_small u hu, List.singleton_append, ← room_set p lo hp]
    exact h4.set_ _ _
  · rw [h2, decs_small u hu]; simp; omega

theorem slice_room (W : World) (B q m : Nat) (h : q + m = 20) (hm : 1 ≤ m) :
    (Instr.sliceAt 98 (.pointer (some ⟨B, 0, none⟩)) (some (.int .i64 (q : Int))) none none).run Tryd.prog W = .ok (.slice (some ⟨B, q, none⟩) m m) W := by
  have e : Tryd.prog.arrayLen 98 = 20 := by kernel_rfl
  have e2 : (sizeOf (Tryd.prog.elem 98)).run Tryd.prog W = .ok 1 W := by kernel_rfl
  rw [run_sliceAt_array_l W 98 ⟨B, 0, none⟩ (by kernel_rfl) .i64 (q : Int) (by omega) (by rw [e]; omega), e2, e]
  have e3 : 20 - q = m := by omega
  have e4 : (if 20 = q then (⟨B, 0, none⟩ : Addr) else (⟨B, 0, none⟩ : Addr).add (q * 1)) = ⟨B, q, none⟩ := by
    rw [if_neg (by omega)]; unfold Addr.add; split <;> simp_all
  simp only [Result.andThen, slicedAt, Int.toNat_natCast, e3, e4]

set_option maxRecDepth 100000 in
set_option maxHeartbeats 400000 in
theorem print_pos (n : Nat) (w : World) (h2 : n ≤ 9223372036854775807) :
    Calls Tryd.prog 42 #[.int .i64 n] w fun e w' => e = .returned (.string ⟨(decs n).toArray⟩) ∧ Below w.heap.size w w' := by
  have hn : ¬ (n : Int) < 0 := by omega
  go_enter Tryd.func42, Tryd.ntmps42
  go_wp2
  go_loopw [4, 5] (fun a v wr => ∃ (p u : Nat) (lo : List UInt8), a = .int .i64 (p : Int) ∧ v = .int .u64 (u : Int) ∧ PrintRel n w.heap.size w p u lo wr)
    (fun _ v _ => (intOf v).toNat)
  case atStart => exact ⟨20, n, [], rfl, rfl, by omega, by simp, rfl, Blk.new _ _ _, (Below.refl _ _).alloc (Nat.le_refl _) _⟩
  case round =>
    obtain ⟨p, u, lo, rfl, rfl, HR⟩ := hrel
    obtain ⟨hp1, hp2⟩ := HR.p (by omega)
    have hu : (u : Int) ≤ 18446744073709551615 := by have := HR.1; omega
    have hc : wr.cell? ⟨w.heap.size, p - 1, none⟩ = some (.int .u8 0) := by rw [HR.2.2.2.1.cell]; exact room_at p lo (by omega)
    have hf : wr.frozen? ⟨w.heap.size, p - 1, none⟩ = false := HR.2.2.2.1.frozen _
    by_cases hz : u < 10
    · have hq := HR.last hp1 (Nat.le_refl _) hz
      have HRR := hide HR; clear HR
      obtain ⟨q, rfl⟩ : ∃ q, p = q + 1 := ⟨p - 1, by omega⟩
      rw [Nat.add_sub_cancel] at hq hc hf
      have hcv := conv_str 78 9 5 Tryd.underlying78 Tryd.underlying5 Tryd.underlying9 (c := (decs n).length) (room_reads (n := (decs n).length) hq.1 rfl)
      have hsl := fun W => slice_room W w.heap.size q (decs n).length (by have := hq.2.2; omega) (by have := hq.2.2; omega)
      have HQ := hide hq; clear hq
      have HZ : ((u : Int) / 10 == 0) = true := by simp; omega
      go_wp2
      go_ret
      exact ⟨rfl, HQ.out.2.1⟩
    · have HQ := hide (HR.put hp1 (Nat.le_refl _) hz)
      have HRR := hide HR; clear HR
      have HZ : ((u : Int) / 10 == 0) = false := by simp; omega
      go_wp2
      go_roundw
      case rel => exact ⟨p - 1, u / 10, _, by go_num, by go_num, HQ.out⟩
      case measure => simp [intOf]; omega

/-- 'uint(n)' of a number below 0, and 0 less that. -/
theorem conv_neg (m : Nat) (h0 : 1 ≤ m) (h1 : m ≤ 9223372036854775808) : ∃ X : Int, (∀ W, (convert 3 92 (.int .i64 (-(m : Int)))).run Tryd.prog W = .ok (.int .u64 X) W) ∧ IntKind.u64.wrap (-X) = (m : Int) := by
  refine ⟨-(m : Int) + 18446744073709551616, fun W => ?_, ?_⟩
  · have e : IntKind.u64.wrap (-(m : Int)) = -(m : Int) + 18446744073709551616 := by simp [IntKind.wrap, IntKind.bits, IntKind.signed]; omega
    go_simp
  · simp [IntKind.wrap, IntKind.bits, IntKind.signed]; omega

/-- copy(b[q:], "-"). -/
theorem copy_dash {W : World} {B q m : Nat} {ty : TypeId} {v : Value} (hm : 1 ≤ m) (hc : W.cell? ⟨B, q, none⟩ = some v) (hf : W.frozen? ⟨B, q, none⟩ = false) :
    (Builtin.copy_ #[78, 9] ty #[.slice (some ⟨B, q, none⟩) m m, .string ⟨#[45]⟩]).run Tryd.prog W = .ok (.int .i64 1) (W.setCell ⟨B, q, none⟩ (.int .u8 45)) := by
  obtain ⟨m, rfl⟩ : ∃ k, m = k + 1 := ⟨m - 1, by omega⟩
  have hmin : Nat.min 1 (m + 1) = 1 := Nat.min_eq_left (by omega)
  have hs : (sizeOf 5).run Tryd.prog W = .ok 1 W := by kernel_rfl
  simp [Builtin.copy_, run_underlying Tryd.underlying78, Builtin.lenOf, Builtin.firstCells, hs, storeCells, go_sem, hc, hf, hmin]

set_option maxRecDepth 100000 in
set_option maxHeartbeats 400000 in
theorem print_neg (m : Nat) (w : World) (h0 : 1 ≤ m) (h1 : m ≤ 9223372036854775808) :
    Calls Tryd.prog 42 #[.int .i64 (-(m : Int))] w fun e w' => e = .returned (.string ⟨(45 :: decs m).toArray⟩) ∧ Below w.heap.size w w' := by
  obtain ⟨X, hX1, hX2⟩ := conv_neg m h0 h1
  have hn : -(m : Int) < 0 := by omega
  have HM := hide h1; clear h1
  go_enter Tryd.func42, Tryd.ntmps42
  go_wp2
  have HX1 := hide hX1; have HX2 := hide hX2; clear hX1 hX2
  go_loopw [4, 5] (fun a v wr => ∃ (p u : Nat) (lo : List UInt8), a = .int .i64 (p : Int) ∧ v = .int .u64 (u : Int) ∧ PrintRel m w.heap.size w p u lo wr)
    (fun _ v _ => (intOf v).toNat)
  case atStart => exact ⟨20, m, [], rfl, rfl, HM.out, by simp, rfl, Blk.new _ _ _, (Below.refl _ _).alloc (Nat.le_refl _) _⟩
  case round =>
    obtain ⟨p, u, lo, rfl, rfl, HR⟩ := hrel
    obtain ⟨hp1, hp2⟩ := HR.p (by have := HM.out; omega)
    have hu : (u : Int) ≤ 18446744073709551615 := by have := HR.1; omega
    have hc : wr.cell? ⟨w.heap.size, p - 1, none⟩ = some (.int .u8 0) := by rw [HR.2.2.2.1.cell]; exact room_at p lo (by omega)
    have hf : wr.frozen? ⟨w.heap.size, p - 1, none⟩ = false := HR.2.2.2.1.frozen _
    by_cases hz : u < 10
    · have hq := HR.last hp1 (Nat.le_refl _) hz
      have HRR := hide HR; clear HR
      have hl19 := (decs_len 18 m (by have := HM.out; omega)).1
      obtain ⟨q, rfl⟩ : ∃ q, p = q + 1 + 1 := ⟨p - 2, by have := hq.2.2; omega⟩
      rw [Nat.add_sub_cancel] at hq hc hf
      have hlt : w.heap.size < wr.heap.size := HRR.out.2.2.2.1.lt
      have hc2 : (wr.setCell ⟨w.heap.size, q + 1, none⟩ (.int .u8 (48 + (u : Int) % 10))).cell? ⟨w.heap.size, q, none⟩ = some (.int .u8 0) := by rw [hq.1.cell]; exact room_at (q + 1) _ (by omega)
      have hf2 : (wr.setCell ⟨w.heap.size, q + 1, none⟩ (.int .u8 (48 + (u : Int) % 10))).frozen? ⟨w.heap.size, q, none⟩ = false := hq.1.frozen _
      have hcp := copy_dash (m := (decs m).length + 1) (ty := 3) (by omega) hc2 hf2
      have hb2 : Blk ((wr.setCell ⟨w.heap.size, q + 1, none⟩ (.int .u8 (48 + (u : Int) % 10))).setCell ⟨w.heap.size, q, none⟩ (.int .u8 45)) w.heap.size 98 (room q (45 :: decs m)) := by
        rw [show room q (45 :: decs m) = room (q + 1 - 1) (45 :: decs m) from rfl, ← room_set (q + 1) (decs m) (by omega) 45]
        exact hq.1.set_ _ _
      have hbel := hq.2.1.setCell (p := ⟨w.heap.size, q, none⟩) (Nat.le_refl _) (.int .u8 45)
      have hcv := conv_str 78 9 5 Tryd.underlying78 Tryd.underlying5 Tryd.underlying9 (c := (decs m).length + 1) (room_reads (n := (decs m).length + 1) hb2 rfl)
      have hsl := fun W => slice_room W w.heap.size q ((decs m).length + 1) (by have := hq.2.2; omega) (by have := hq.2.2; omega)
      clear hc2 hf2 hb2
      have HQ := hide hbel; clear hq hbel
      have HZ : ((u : Int) / 10 == 0) = true := by simp; omega
      go_wp2_with (at_builtin; refine Lib.wpList_copy_run _ rfl _ _ 78 9 rfl _ _ rfl rfl hcp ?_)
      go_ret
      exact ⟨rfl, HQ.out⟩
    · have HQ := hide (HR.put hp1 (Nat.le_refl _) hz)
      have HRR := hide HR; clear HR
      have HZ : ((u : Int) / 10 == 0) = false := by simp; omega
      go_wp2
      go_roundw
      case rel => exact ⟨p - 1, u / 10, _, by go_num, by go_num, HQ.out⟩
      case measure => simp [intOf]; omega

theorem print_any (n : Int) (w : World) (h0 : -9223372036854775808 ≤ n) (h1 : n ≤ 9223372036854775807) :
    Calls Tryd.prog 42 #[.int .i64 n] w fun e w' => e = .returned (.string ⟨(pInt n).toArray⟩) ∧ Below w.heap.size w w' := by
  by_cases h : n < 0
  · obtain ⟨m, rfl⟩ : ∃ m : Nat, n = -(m : Int) := ⟨n.natAbs, by omega⟩
    rw [show pInt (-(m : Int)) = 45 :: decs m by unfold pInt; rw [if_pos h]; simp]
    exact print_neg m w (by omega) (by omega)
  · obtain ⟨m, rfl⟩ := Int.eq_ofNat_of_zero_le (show 0 ≤ n by omega)
    rw [show pInt (m : Int) = decs m by unfold pInt; rw [if_neg h]; simp]
    exact print_pos m w (by omega)
end Go.Proofs.YtdnmgpidfjkiaaaDoor
