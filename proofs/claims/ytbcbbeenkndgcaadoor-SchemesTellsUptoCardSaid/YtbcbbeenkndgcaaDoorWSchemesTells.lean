/-
  SchemesTells: THE WALK.
-/
import Derived.Test.YtbcbbeenkndgcaaDoorFilter
import Derived.Test.YtbcbbeenkndgcaaDoorRefFilter
import Derived.Test.YtbcbbeenkndgcaaDoorLaidU8
namespace Go.Proofs.YtbcbbeenkndgcaaDoor
open Go.RowKit
set_option linter.unusedVariables false
set_option linter.unusedSimpArgs false

theorem marker_any (w : World) : Calls Tryd.prog 32 #[] w fun e w' => e = .returned (.string ⟨#[35, 90, 103, 111, 116, 109, 112, 108, 90]⟩) ∧ w = w' := by
  go_enter Tryd.func32, Tryd.ntmps32
  go_wp2_with fail
  go_ret
  exact ⟨rfl, rfl⟩
set_option maxHeartbeats 2000000 in
set_option maxRecDepth 100000 in
theorem schemesTells_walk (a0 : ByteArray) (s0 : a0.size ≤ 1048576) (a1 : ByteArray) (s1 : a1.size ≤ 1048576) (w : World) (hT : Lib.Utf8Tabs 3 4 w) :
    Calls Tryd.prog 8 #[.string a0, .string a1] w fun e w' => e = .returned (.bool true) ∧ Below w.heap.size w w' := by
  obtain ⟨s, rfl⟩ : ∃ l : List UInt8, a0 = ⟨l.toArray⟩ := ⟨a0.data.toList, rfl⟩
  obtain ⟨t, rfl⟩ : ∃ l : List UInt8, a1 = ⟨l.toArray⟩ := ⟨a1.data.toList, rfl⟩
  rw [mk_size] at s0 s1
  have c1 := fun w => scheme_any s w (by omega)
  have c2 := fun w => refScheme_any s w (by omega)
  generalize schemeB s = u at c1 c2
  obtain ⟨x, b⟩ := u
  simp only at c1 c2
  have c3 := fun w => allowed_any t w
  have c4 := fun w => refAllowed_any t w
  generalize allowB t = ab at c3 c4
  have c5 := fun w hT => filter_any s w (by omega) hT
  have c6 := fun w => refFilter_any s w (by omega)
  generalize filterB s = f at c5 c6
  have c1 := hide c1; have c2 := hide c2; have c3 := hide c3; have c4 := hide c4; have c5 := hide c5; have c6 := hide c6
  go_enter Tryd.func8, Tryd.ntmps8
  go_wp2_with fail
  refine (c1.out _).mono ?_
  rintro e w1 ⟨rfl, hb1⟩
  go_wp2_with fail
  refine (c2.out _).mono ?_
  rintro e w2 ⟨rfl, hb2⟩
  have hB2 := below_step hb1 hb2
  have hT2 := u8tabs_keep hT hB2
  go_wp2_with (first
    | (go_at_call 27; refine (c3.out _).mono ?_; rintro e w3 ⟨rfl, rfl⟩)
    | (go_at_call 30; refine (c4.out _).mono ?_; rintro e w3 ⟨rfl, rfl⟩)
    | (go_at_call 25; refine (c5.out _ hT2).mono ?_; rintro e w3 ⟨rfl, hb3⟩; have hB3 := below_step hB2 hb3)
    | (go_at_call 31; refine (c6.out _).mono ?_; rintro e w4 ⟨rfl, hb4⟩; have hB4 := below_step hB3 hb4; have hT4 := u8tabs_keep hT hB4)
    | (go_at_call 32; refine (marker_any _).mono ?_; rintro e w5 ⟨rfl, rfl⟩)
    | (go_at_call 28; refine (alive08 _ hT4).mono ?_; rintro e w5 ⟨rfl, hb5⟩; have hB5 := below_step hB4 hb5))
  go_ret
  exact ⟨rfl, hB5⟩
end Go.Proofs.YtbcbbeenkndgcaaDoor
