/-
  SchemesFilters: a filtered text has no scheme, or one that is allowed; filtered again it stays. THE WALK.
-/
import Derived.Test.YtbcbbeenkndgcaaDoorFilter
import Derived.Test.YtbcbbeenkndgcaaDoorNormSpec
import Derived.Test.YtbcbbeenkndgcaaDoorLaidU8
namespace Go.Proofs.YtbcbbeenkndgcaaDoor
open Go.RowKit
set_option linter.unusedVariables false
set_option linter.unusedSimpArgs false

theorem filterB_len (l : List UInt8) : (filterB l).length ≤ 12 * l.length + 9 := by
  unfold filterB
  split
  · have : markerL.length = 9 := rfl
    omega
  · have := pctR_len true (repairR l)
    have := repairR_len l
    omega
set_option maxHeartbeats 1000000 in
set_option maxRecDepth 100000 in
theorem schemesFilters_walk (a0 : ByteArray) (s0 : a0.size ≤ 1048576) (w : World) (hT : Lib.Utf8Tabs 3 4 w) :
    Calls Tryd.prog 6 #[.string a0] w fun e w' => e = .returned (.bool true) ∧ Below w.heap.size w w' := by
  obtain ⟨s, rfl⟩ : ∃ l : List UInt8, a0 = ⟨l.toArray⟩ := ⟨a0.data.toList, rfl⟩
  rw [mk_size] at s0
  have hl := filterB_len s
  have c1 := fun w hT => filter_any s w (by omega) hT
  have c2 := fun w => scheme_any (filterB s) w (by omega)
  have c3 := fun w hT => filter_any (filterB s) w (by omega) hT
  have hfs := filter_scheme s
  rw [filter_again s] at c3
  generalize filterB s = t at c1 c2 c3 hfs hl
  generalize schemeB t = u at c2 hfs
  obtain ⟨x, b⟩ := u
  simp only at c2 hfs
  have c4 := fun w => allowed_any x w
  have c1 := hide c1; have c2 := hide c2; have c3 := hide c3
  cases b
  · clear hfs c4
    go_enter Tryd.func6, Tryd.ntmps6
    go_wp2_with fail
    refine (c1.out _ hT).mono ?_
    rintro e w1 ⟨rfl, hb1⟩
    have hT1 := u8tabs_keep hT hb1
    go_wp2_with fail
    refine (c2.out _).mono ?_
    rintro e w2 ⟨rfl, hb2⟩
    have hB2 := below_step hb1 hb2
    have hT2 := u8tabs_keep hT hB2
    go_wp2_with (first
      | (go_at_call 25; refine (c3.out _ hT2).mono ?_; rintro e w3 ⟨rfl, hb3⟩; have hB3 := below_step hB2 hb3; have hT3 := u8tabs_keep hT hB3)
      | (go_at_call 28; refine (alive08 _ hT3).mono ?_; rintro e w4 ⟨rfl, hb4⟩; have hB4 := below_step hB3 hb4))
    go_ret
    exact ⟨rfl, hB4⟩
  · rw [hfs rfl] at c4
    clear hfs
    have c4 := hide c4
    go_enter Tryd.func6, Tryd.ntmps6
    go_wp2_with fail
    refine (c1.out _ hT).mono ?_
    rintro e w1 ⟨rfl, hb1⟩
    have hT1 := u8tabs_keep hT hb1
    go_wp2_with fail
    refine (c2.out _).mono ?_
    rintro e w2 ⟨rfl, hb2⟩
    have hB2 := below_step hb1 hb2
    have hT2 := u8tabs_keep hT hB2
    go_wp2_with (first
      | (go_at_call 27; refine (c4.out _).mono ?_; rintro e w3 ⟨rfl, rfl⟩)
      | (go_at_call 25; refine (c3.out _ hT2).mono ?_; rintro e w3 ⟨rfl, hb3⟩; have hB3 := below_step hB2 hb3; have hT3 := u8tabs_keep hT hB3)
      | (go_at_call 28; refine (alive08 _ hT3).mono ?_; rintro e w4 ⟨rfl, hb4⟩; have hB4 := below_step hB3 hb4))
    go_ret
    exact ⟨rfl, hB4⟩
end Go.Proofs.YtbcbbeenkndgcaaDoor
