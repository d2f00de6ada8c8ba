/-
  PercentBack: decoded, an encoded text is the repaired one. THE WALK.
-/
import Derived.Test.YtbcbbeenkndgcaaDoorEncode
import Derived.Test.YtbcbbeenkndgcaaDoorBackSpec
import Derived.Test.YtbcbbeenkndgcaaDoorRefUtf3
import Derived.Test.YtbcbbeenkndgcaaDoorLaidU8
namespace Go.Proofs.YtbcbbeenkndgcaaDoor
open Go.RowKit
set_option linter.unusedVariables false
set_option linter.unusedSimpArgs false

theorem u8keep {w w' : World} (h : Lib.Utf8Tabs 3 4 w) (hb : Below w.heap.size w w') : Lib.Utf8Tabs 3 4 w' := Utf8Tabs_below h hb
theorem num07 (n : Int) (w : World) : Calls Tryd.prog 18 #[.int .i64 n] w fun e w' => e = .returned (.int .i64 n) ∧ w = w' := by
  go_enter Tryd.func18, Tryd.ntmps18
  go_wp2_with fail
  go_ret
  exact ⟨rfl, rfl⟩
set_option maxHeartbeats 1000000 in
set_option maxRecDepth 100000 in
theorem alive07 (w : World) (hT : Lib.Utf8Tabs 3 4 w) : Calls Tryd.prog 20 #[] w fun e w' => e = .returned (.bool true) ∧ Below w.heap.size w w' := by
  have cD := fun w => pctDecode_any [97, 37, 50, 48, 98] w (by decide)
  rw [show unp [97, 37, 50, 48, 98] = ([97, 32, 98], 5, true) by decide +kernel] at cD
  simp only [if_true] at cD
  have cE := fun w hT => encode_any [97, 32, 98] w (by decide) hT
  rw [show pctR false (repairR [97, 32, 98]) = [97, 37, 50, 48, 98] by decide +kernel] at cE
  have cD := hide cD; have cE := hide cE
  go_enter Tryd.func20, Tryd.ntmps20
  go_wp2_with fail
  refine (cD.out _).mono ?_
  rintro e w1 ⟨rfl, hb1⟩
  have hT1 := u8keep hT hb1
  go_wp2_with (first | (go_at_call 18; refine (num07 _ _).mono ?_; rintro e w2 ⟨rfl, rfl⟩) | (go_at_call 16; refine (cE.out _ hT1).mono ?_; rintro e w2 ⟨rfl, hb2⟩))
  go_ret
  exact ⟨rfl, below_step hb1 hb2⟩
set_option maxHeartbeats 1000000 in
set_option maxRecDepth 100000 in
theorem percentBack_walk (a0 : ByteArray) (s0 : a0.size ≤ 1048576) (w : World) (hT : Lib.Utf8Tabs 3 4 w) :
    Calls Tryd.prog 3 #[.string a0] w fun e w' => e = .returned (.bool true) ∧ Below w.heap.size w w' := by
  obtain ⟨s, rfl⟩ : ∃ l : List UInt8, a0 = ⟨l.toArray⟩ := ⟨a0.data.toList, rfl⟩
  rw [mk_size] at s0
  have cE := encode_any s w (by omega) hT
  have cR := fun w => refRepair_any s w (by omega)
  have hl := repairR_len s
  generalize repairR s = r at cE cR hl
  have hp := pctR_len false r
  have cD := fun w => pctDecode_any (pctR false r) w (by omega)
  rw [unp_pct r] at cD
  simp only [if_true] at cD
  generalize pctR false r = x at cE cD hp
  have hxz : (x.length : Int) ≤ 100000000 := by omega
  have cE := hide cE; have cR := hide cR; have cD := hide cD
  go_enter Tryd.func3, Tryd.ntmps3
  go_wp2_with fail
  refine (cE.out).mono ?_
  rintro e w1 ⟨rfl, hb1⟩
  go_wp2_with fail
  refine (cD.out _).mono ?_
  rintro e w2 ⟨rfl, hb2⟩
  have hB2 := below_step hb1 hb2
  go_wp2_with (first
    | (go_at_call 18; refine (num07 _ _).mono ?_; rintro e w3 ⟨rfl, rfl⟩)
    | (go_at_call 19; refine (cR.out _).mono ?_; rintro e w3 ⟨rfl, hb3⟩; have hB3 := below_step hB2 hb3; have hT3 := u8keep hT hB3)
    | (go_at_call 20; refine (alive07 _ hT3).mono ?_; rintro e w4 ⟨rfl, hb4⟩; have hB4 := below_step hB3 hb4))
  go_ret
  exact ⟨rfl, hB4⟩
end Go.Proofs.YtbcbbeenkndgcaaDoor
