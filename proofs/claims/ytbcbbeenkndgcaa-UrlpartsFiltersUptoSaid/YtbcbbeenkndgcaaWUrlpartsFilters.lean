/-
  UrlpartsFilters: a filtered text has no scheme, or an allowed one. THE WALK.
-/
import Derived.Test.YtbcbbeenkndgcaaAlive40
import Derived.Test.YtbcbbeenkndgcaaRefFilter
namespace Go.Proofs.Ytbcbbeenkndgcaa
open Go.RowKit
set_option linter.unusedVariables false
set_option linter.unusedSimpArgs false

set_option maxHeartbeats 4000000 in
set_option maxRecDepth 100000 in
theorem urlpartsFilters_walk (a0 : ByteArray) (s0 : a0.size ≤ 1048576) (w : World) :
    Calls Try.prog 3 #[.string a0] w fun e w' => e = .returned (.bool true) ∧ Below w.heap.size w w' := by
  obtain ⟨l, rfl⟩ : ∃ l : List UInt8, a0 = ⟨l.toArray⟩ := ⟨a0.data.toList, rfl⟩
  rw [mk_size] at s0
  have cF := hide (fun w => refFilter_any l w (by omega))
  have hfl := filterB_len l
  have cS := hide (fun w => split_any (filterB l) w (by omega))
  have hal := filter_allowed l
  have hsz := splitB_size (filterB l)
  generalize filterB l = f at cF cS hal hfl hsz
  generalize splitB f = u at cS hal hsz
  obtain ⟨sc, ho, pa, qu, fr, hs, hh, hq, hf⟩ := u
  simp only [UrlV.cells] at cS
  simp only [UrlV.size] at hal hsz
  have cL := hide (fun w => refLow_any sc w (by omega))
  have cA := hide (fun w => refAllowed_any (sc.map smallB) w)
  cases hs
  · clear hal
    go_enter Try.func3, Try.ntmps3
    go_wp2_with fail
    refine (cF.out _).mono ?_
    rintro e w1 ⟨rfl, hb1⟩
    go_wp2_with fail
    refine (cS.out _).mono ?_
    rintro e w2 ⟨rfl, hb2⟩
    have hB := below_step hb1 hb2
    have HB := hide (hB.alloc hB.size (.cells #[.string ⟨sc.toArray⟩, .string ⟨ho.toArray⟩, .string ⟨pa.toArray⟩, .string ⟨qu.toArray⟩, .string ⟨fr.toArray⟩, .bool false, .bool hh, .bool hq, .bool hf] 23))
    clear hB hb1 hb2
    go_wp2_with (go_at_call 11; refine (alive40 _).mono ?_; rintro e w3 ⟨rfl, hb3⟩)
    go_ret
    exact ⟨rfl, below_step HB.out hb3⟩
  · have hal := hal rfl
    rw [hal] at cA
    clear hal
    go_enter Try.func3, Try.ntmps3
    go_wp2_with fail
    refine (cF.out _).mono ?_
    rintro e w1 ⟨rfl, hb1⟩
    go_wp2_with fail
    refine (cS.out _).mono ?_
    rintro e w2 ⟨rfl, hb2⟩
    have hB := below_step hb1 hb2
    have HB := hide (hB.alloc hB.size (.cells #[.string ⟨sc.toArray⟩, .string ⟨ho.toArray⟩, .string ⟨pa.toArray⟩, .string ⟨qu.toArray⟩, .string ⟨fr.toArray⟩, .bool true, .bool hh, .bool hq, .bool hf] 23))
    clear hB hb1 hb2
    go_wp2_with (first
      | (go_at_call 10; refine (cL.out _).mono ?_; rintro e w3 ⟨rfl, hb3⟩)
      | (go_at_call 9; refine (cA.out _).mono ?_; rintro e w4 ⟨rfl, rfl⟩)
      | (go_at_call 11; refine (alive40 _).mono ?_; rintro e w5 ⟨rfl, hb5⟩))
    go_ret
    exact ⟨rfl, below_step (below_step HB.out hb3) hb5⟩
end Go.Proofs.Ytbcbbeenkndgcaa
