/-
  FuncsOrder: of two numbers, and of two texts, at most one is less than the other. THE WALK.
-/
import Derived.Test.YtlandmahjdaphaaOrder2
namespace Go.Proofs.Ytlandmahjdaphaa
open Go.RowKit
set_option linter.unusedVariables false
set_option linter.unusedSimpArgs false

set_option maxHeartbeats 1000000 in
theorem refTruth_any (b : Bool) (w : World) : Calls Try.prog 9 #[.agg #[.int .i64 (truthK b), .int .i64 0, .string ⟨#[]⟩, .slice none 0 0, .slice none 0 0]] w fun e w' => e = .returned (.bool b) ∧ Below w.heap.size w w' := by
  cases b
  · show Calls Try.prog 9 #[.agg #[.int .i64 1, .int .i64 0, .string ⟨#[]⟩, .slice none 0 0, .slice none 0 0]] w fun e w' => e = .returned (.bool false) ∧ Below w.heap.size w w'
    go_enter Try.func9, Try.ntmps9
    go_wp2_with fail
    go_ret
    exact ⟨rfl, (Below.refl _ _).alloc (Nat.le_refl _) _⟩
  · show Calls Try.prog 9 #[.agg #[.int .i64 2, .int .i64 0, .string ⟨#[]⟩, .slice none 0 0, .slice none 0 0]] w fun e w' => e = .returned (.bool true) ∧ Below w.heap.size w w'
    go_enter Try.func9, Try.ntmps9
    go_wp2_with fail
    go_ret
    exact ⟨rfl, (Below.refl _ _).alloc (Nat.le_refl _) _⟩
set_option maxHeartbeats 8000000 in
set_option maxRecDepth 100000 in
theorem funcsOrder_walk (a0 : Int) (lo0 : -9223372036854775808 ≤ a0) (hi0 : a0 ≤ 9223372036854775807) (a1 : Int) (lo1 : -9223372036854775808 ≤ a1) (hi1 : a1 ≤ 9223372036854775807) (a2 : ByteArray) (s2 : a2.size ≤ 140737488351232) (a3 : ByteArray) (s3 : a3.size ≤ 140737488351232) (w : World) :
    Calls Try.prog 3 #[.int .i64 a0, .int .i64 a1, .string a2, .string a3] w fun e w' => e = .returned (.bool true) ∧ Below w.heap.size w w' := by
  clear lo0 hi0 lo1 hi1 s2 s3
  have cI := fun w r hr => call_lt 3 a0 3 a1 (truthK (decide (a0 < a1))) 0 0 ⟨#[]⟩ ⟨#[]⟩ ⟨#[]⟩ (less_int a0 a1) w r hr
  have cT := fun w r hr => call_lt 4 0 4 0 (truthK (Op.bytesLess a2.toList a3.toList)) 0 0 a2 a3 ⟨#[]⟩ (less_text a2 a3) w r hr
  have cM := fun w r hr => call_lt 3 a0 4 0 0 0 13 ⟨#[]⟩ a2 ⟨#[]⟩ (less_mixed a0 a2) w r hr
  obtain ⟨d1, g1⟩ : ∃ d, decide (a0 < a1) = d := ⟨_, rfl⟩
  obtain ⟨d2, g2⟩ : ∃ d, Op.bytesLess a2.toList a3.toList = d := ⟨_, rfl⟩
  rw [g1] at cI
  rw [g2] at cT
  have t1 := hide (refTruth_any d1); have t2 := hide (refTruth_any d2)
  generalize truthK d1 = k1 at cI t1
  generalize truthK d2 = k2 at cT t2
  have cI := hide cI; have cT := hide cT; have cM := hide cM
  go_enter Try.func3, Try.ntmps3
  go_wp2_with fail
  refine (alive26 _).mono ?_
  rintro e w1 ⟨rfl, hb1⟩
  go_wp2_with fail
  refine (refInt_any a0 _).mono ?_
  rintro e w2 ⟨rfl, hb2⟩
  go_wp2_with fail
  refine (refInt_any a1 _).mono ?_
  rintro e w3 ⟨rfl, hb3⟩
  have hB3 := below_step (below_step hb1 hb2) hb3
  clear hb1 hb2 hb3
  have hR := Blk.new w3 26 #[.int .i64 3, .int .i64 a0, .string ⟨#[]⟩, .slice none 0 0, .slice none 0 0, .int .i64 3, .int .i64 a1, .string ⟨#[]⟩, .slice none 0 0, .slice none 0 0]
  have hB := hB3.alloc hB3.size (.cells #[.int .i64 3, .int .i64 a0, .string ⟨#[]⟩, .slice none 0 0, .slice none 0 0, .int .i64 3, .int .i64 a1, .string ⟨#[]⟩, .slice none 0 0, .slice none 0 0] 26)
  go_wp2_with fail
  generalize w3.alloc (.cells #[.int .i64 3, .int .i64 a0, .string ⟨#[]⟩, .slice none 0 0, .slice none 0 0, .int .i64 3, .int .i64 a1, .string ⟨#[]⟩, .slice none 0 0, .slice none 0 0] 26) = W3 at hR hB ⊢
  refine (cI.out _ _ hR).mono ?_
  rintro e w4 ⟨rfl, hb4⟩
  have hB4 := hB.trans (hb4.mono hB.size)
  have hX := Blk.new w4 26 #[.int .i64 k1, .int .i64 0, .string ⟨#[]⟩, .slice none 0 0, .slice none 0 0]
  have hBX := hB4.alloc hB4.size (.cells #[.int .i64 k1, .int .i64 0, .string ⟨#[]⟩, .slice none 0 0, .slice none 0 0] 26)
  clear hR hB hb4 hB3 hB4
  go_wp2_with fail
  generalize w4.alloc (.cells #[.int .i64 k1, .int .i64 0, .string ⟨#[]⟩, .slice none 0 0, .slice none 0 0] 26) = W4 at hX hBX ⊢
  refine (refText_any a2 _).mono ?_
  rintro e w5 ⟨rfl, hb5⟩
  go_wp2_with fail
  refine (refText_any a3 _).mono ?_
  rintro e w6 ⟨rfl, hb6⟩
  have hb56 := below_step hb5 hb6
  have hX6 := hX.below hb56 hX.lt
  have hB6 := hBX.trans (hb56.mono hBX.size)
  clear hb5 hb6 hb56 hX hBX
  have hR := Blk.new w6 26 #[.int .i64 4, .int .i64 0, .string a2, .slice none 0 0, .slice none 0 0, .int .i64 4, .int .i64 0, .string a3, .slice none 0 0, .slice none 0 0]
  have hB := hB6.alloc hB6.size (.cells #[.int .i64 4, .int .i64 0, .string a2, .slice none 0 0, .slice none 0 0, .int .i64 4, .int .i64 0, .string a3, .slice none 0 0, .slice none 0 0] 26)
  have hX7 := hX6.alloc (.cells #[.int .i64 4, .int .i64 0, .string a2, .slice none 0 0, .slice none 0 0, .int .i64 4, .int .i64 0, .string a3, .slice none 0 0, .slice none 0 0] 26)
  go_wp2_with fail
  generalize w6.alloc (.cells #[.int .i64 4, .int .i64 0, .string a2, .slice none 0 0, .slice none 0 0, .int .i64 4, .int .i64 0, .string a3, .slice none 0 0, .slice none 0 0] 26) = W6 at hR hB hX7 ⊢
  refine (cT.out _ _ hR).mono ?_
  rintro e w7 ⟨rfl, hb7⟩
  have hB7 := hB.trans (hb7.mono hB.size)
  have hX8 := (hX7.below hb7 hX7.lt).alloc (.cells #[.int .i64 k2, .int .i64 0, .string ⟨#[]⟩, .slice none 0 0, .slice none 0 0] 26)
  have hY := Blk.new w7 26 #[.int .i64 k2, .int .i64 0, .string ⟨#[]⟩, .slice none 0 0, .slice none 0 0]
  have hBY := hB7.alloc hB7.size (.cells #[.int .i64 k2, .int .i64 0, .string ⟨#[]⟩, .slice none 0 0, .slice none 0 0] 26)
  clear hR hB hb7 hB6 hB7 hX6 hX7
  go_wp2_with fail
  generalize w7.alloc (.cells #[.int .i64 k2, .int .i64 0, .string ⟨#[]⟩, .slice none 0 0, .slice none 0 0] 26) = W7 at hX8 hY hBY ⊢
  refine (refInt_any a0 _).mono ?_
  rintro e w8 ⟨rfl, hb8⟩
  go_wp2_with fail
  refine (refText_any a2 _).mono ?_
  rintro e w9 ⟨rfl, hb9⟩
  have hb89 := below_step hb8 hb9
  have hX9 := hX8.below hb89 hX8.lt
  have hY9 := hY.below hb89 hY.lt
  have hB9 := hBY.trans (hb89.mono hBY.size)
  clear hb8 hb9 hb89 hX8 hY hBY
  have hR := Blk.new w9 26 #[.int .i64 3, .int .i64 a0, .string ⟨#[]⟩, .slice none 0 0, .slice none 0 0, .int .i64 4, .int .i64 0, .string a2, .slice none 0 0, .slice none 0 0]
  have hB := hB9.alloc hB9.size (.cells #[.int .i64 3, .int .i64 a0, .string ⟨#[]⟩, .slice none 0 0, .slice none 0 0, .int .i64 4, .int .i64 0, .string a2, .slice none 0 0, .slice none 0 0] 26)
  have hX10 := hX9.alloc (.cells #[.int .i64 3, .int .i64 a0, .string ⟨#[]⟩, .slice none 0 0, .slice none 0 0, .int .i64 4, .int .i64 0, .string a2, .slice none 0 0, .slice none 0 0] 26)
  have hY10 := hY9.alloc (.cells #[.int .i64 3, .int .i64 a0, .string ⟨#[]⟩, .slice none 0 0, .slice none 0 0, .int .i64 4, .int .i64 0, .string a2, .slice none 0 0, .slice none 0 0] 26)
  go_wp2_with fail
  generalize w9.alloc (.cells #[.int .i64 3, .int .i64 a0, .string ⟨#[]⟩, .slice none 0 0, .slice none 0 0, .int .i64 4, .int .i64 0, .string a2, .slice none 0 0, .slice none 0 0] 26) = W9 at hR hB hX10 hY10 ⊢
  refine (cM.out _ _ hR).mono ?_
  rintro e w10 ⟨rfl, hb10⟩
  have hB10 := hB.trans (hb10.mono hB.size)
  have hX11 := (hX10.below hb10 hX10.lt).alloc (.cells #[.int .i64 0, .int .i64 0, .string ⟨#[]⟩, .slice none 0 0, .slice none 0 0] 26)
  have hY11 := (hY10.below hb10 hY10.lt).alloc (.cells #[.int .i64 0, .int .i64 0, .string ⟨#[]⟩, .slice none 0 0, .slice none 0 0] 26)
  have hB11 := hB10.alloc hB10.size (.cells #[.int .i64 0, .int .i64 0, .string ⟨#[]⟩, .slice none 0 0, .slice none 0 0] 26)
  have x0 := hX11.cell 0; have x1 := hX11.cell 1; have x2 := hX11.cell 2; have x3 := hX11.cell 3; have x4 := hX11.cell 4
  have y0 := hY11.cell 0; have y1 := hY11.cell 1; have y2 := hY11.cell 2; have y3 := hY11.cell 3; have y4 := hY11.cell 4
  simp at x0 x1 x2 x3 x4 y0 y1 y2 y3 y4
  clear hR hB hb10 hB9 hB10 hX9 hX10 hY9 hY10
  go_wp2_with (go_at_call 8; refine (num26 _ _).mono ?_; rintro e wn ⟨rfl, rfl⟩)
  refine (t1.out _).mono ?_
  rintro e w11 ⟨rfl, hb11⟩
  have hY12 := hY11.below hb11 hY11.lt
  have hB12 := hB11.trans (hb11.mono hB11.size)
  clear hX11 hY11 hB11 hb11 x0 x1 x2 x3 x4 y0 y1 y2 y3 y4
  have y0 := hY12.cell 0; have y1 := hY12.cell 1; have y2 := hY12.cell 2; have y3 := hY12.cell 3; have y4 := hY12.cell 4
  simp at y0 y1 y2 y3 y4
  go_wp2_with fail
  refine (t2.out _).mono ?_
  rintro e w12 ⟨rfl, hb12⟩
  have hB13 := hB12.trans (hb12.mono hB12.size)
  clear hY12 hB12 hb12 y0 y1 y2 y3 y4
  go_wp2_with (go_at_call 8; refine (num26 _ _).mono ?_; rintro e wn ⟨rfl, rfl⟩)
  go_ret
  exact ⟨rfl, hB13⟩
end Go.Proofs.Ytlandmahjdaphaa
