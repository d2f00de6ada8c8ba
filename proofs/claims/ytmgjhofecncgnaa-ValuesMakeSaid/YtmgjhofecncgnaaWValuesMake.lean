/-
  ValuesMake: texts and numbers are values; a text is true if it is not empty, a number if it is not 0. THE WALK.
-/
import Derived.Test.YtmgjhofecncgnaaLaw04
import Derived.Test.YtmgjhofecncgnaaQB
namespace Go.Proofs.Ytmgjhofecncgnaa
open Go.RowKit
set_option linter.unusedVariables false
set_option linter.unusedSimpArgs false

abbrev textC (s : ByteArray) : Array Value := #[.int .i64 4, .int .i64 0, .string s, .slice none 0 0, .slice none 0 0]
abbrev numC (n : Int) : Array Value := #[.int .i64 3, .int .i64 n, .string ⟨#[]⟩, .slice none 0 0, .slice none 0 0]
set_option maxHeartbeats 8000000 in
set_option maxRecDepth 100000 in
theorem valuesMake_walk (a0 : ByteArray) (s0 : a0.size ≤ 140737488351232) (a1 : Int) (lo1 : -9223372036854775808 ≤ a1) (hi1 : a1 ≤ 9223372036854775807) (w : World) :
    Calls Try.prog 10 #[.string a0, .int .i64 a1] w fun e w' => e = .returned (.bool true) ∧ Below w.heap.size w w' := by
  clear s0
  go_enter Try.func10, Try.ntmps10
  go_wp2_with fail
  refine (text_any a0 _).mono ?_
  rintro e w1 ⟨rfl, hb1⟩
  go_wp2_with fail
  refine (int_any a1 _).mono ?_
  rintro e w2 ⟨rfl, hb2⟩
  have hB := below_step hb1 hb2
  clear hb1 hb2
  have hT : Blk ((w2.alloc (.cells (textC a0) 49)).alloc (.cells (numC a1) 49)) w2.heap.size 49 (textC a0) := (Blk.new _ _ _).alloc _
  have hM : Blk ((w2.alloc (.cells (textC a0) 49)).alloc (.cells (numC a1) 49)) (w2.heap.size + 1) 49 (numC a1) := by
    have := Blk.new (w2.alloc (.cells (textC a0) 49)) 49 (numC a1)
    simpa using this
  have hB2 : Below w2.heap.size w2 ((w2.alloc (.cells (textC a0) 49)).alloc (.cells (numC a1) 49)) := ((Below.refl _ _).alloc (Nat.le_refl _) _).alloc (by simp) _
  have hB := below_step hB hB2
  clear hB2
  go_wp2_with fail
  obtain ⟨W, hW⟩ : ∃ W, ((w2.alloc (.cells (textC a0) 49)).alloc (.cells (numC a1) 49)) = W := ⟨_, rfl⟩
  have z2 : w2.heap.size + 1 < W.heap.size := by rw [← hW]; simp
  have z1 : w2.heap.size < W.heap.size := by omega
  rw [hW] at hT hM hB
  unfold textC numC at hW
  rw [hW]
  have hWW := hide hW
  clear hW
  have t0 := hT.cell 0; have t1 := hT.cell 1; have t2 := hT.cell 2; have t3 := hT.cell 3; have t4 := hT.cell 4
  have m0 := hM.cell 0; have m1 := hM.cell 1; have m2 := hM.cell 2; have m3 := hM.cell 3; have m4 := hM.cell 4
  simp [textC, numC] at t0 t1 t2 t3 t4 m0 m1 m2 m3 m4
  have hBH := hide hB
  clear hB hT hM hWW
  have hBl : Below W.heap.size W W := Below.refl _ _
  have step : ∀ (b1 b2 : Bool), a0.toList.isEmpty = b1 → (a1 == 0) = b2 → True := fun _ _ _ _ => trivial
  clear step
  rcases Bool.eq_false_or_eq_true a0.toList.isEmpty with g1 | g1 <;> rcases Bool.eq_false_or_eq_true (a1 == 0) with g2 | g2
  all_goals
    have cTt := hide (fun w => truth_text a0 w)
    have cTn := hide (fun w => truth_num a1 w)
    rw [show (a1 != 0) = !(a1 == 0) from rfl] at cTn
    rw [g1] at cTt
    rw [g2] at cTn
    have g3 : (a1 != 0) = !(a1 == 0) := rfl
    rw [g2] at g3
    simp only [Bool.not_true, Bool.not_false] at cTt cTn g3
    refine wp_region_below (W := W) (by kernel_rfl) (by kernel_rfl) hBl ?_
    repeat (first
      | go_big_quiet_skip
      | (apply wpQuiet_one (by rfl)
         · intro w' hw'
           have hc := (bcell hw').1
           go_simp
           first
             | done
             | (go_at_call 37; exact Calls.below_of hw' (refText_any _ _))
             | (go_at_call 38; exact Calls.below_of hw' (refInt_any _ _))
             | (go_at_call 34; exact Calls.below_of hw' (refSame_leaf _ _ _ _))
             | (go_at_call_of 39 (Value.string a0); exact Calls.below_of hw' (cTt.out _))
             | (go_at_call 39; exact Calls.below_of hw' (cTn.out _))
             | (go_at_call 40; exact Calls.below_of hw' (print_text _ _))
             | (go_at_call 41; exact Calls.below_of hw' (plain_text _ _))
             | (go_at_call 42; exact Calls.below_of hw' (alive04 _))
             | rfl
         · go_simp
           rfl))
    refine wpQuiet_nil ?_
    intro w' hw'
    go_wp2
    go_ret
    exact ⟨rfl, below_step hBH.out hw'⟩
end Go.Proofs.Ytmgjhofecncgnaa
