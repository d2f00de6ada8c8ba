/-
  schemes: Allowed, Filter.
-/
import Derived.Test.YtbcbbeenkndgcaaDoorWritten
import Derived.Test.YtbcbbeenkndgcaaDoorScheme
import Derived.Test.YtbcbbeenkndgcaaDoorFiltSpec
namespace Go.Proofs.YtbcbbeenkndgcaaDoor
open Go.RowKit
set_option linter.unusedVariables false
set_option linter.unusedSimpArgs false

set_option maxHeartbeats 1000000 in
set_option maxRecDepth 100000 in
theorem allowed_any (l : List UInt8) (w : World) : Calls Tryd.prog 27 #[.string ⟨l.toArray⟩] w fun e w' => e = .returned (.bool (allowB l)) ∧ w = w' := by
  have ha : allowB l = (l == [104, 116, 116, 112] || (l == [104, 116, 116, 112, 115] || l == [109, 97, 105, 108, 116, 111])) := rfl
  rw [ha]
  clear ha
  rcases Bool.eq_false_or_eq_true (l == [104, 116, 116, 112]) with g1 | g1
  · rw [g1]
    go_enter Tryd.func27, Tryd.ntmps27
    go_wp2_with fail
    go_ret
    exact ⟨rfl, rfl⟩
  · rcases Bool.eq_false_or_eq_true (l == [104, 116, 116, 112, 115]) with g2 | g2
    · rw [g1, g2]
      go_enter Tryd.func27, Tryd.ntmps27
      go_wp2_with fail
      go_ret
      exact ⟨rfl, rfl⟩
    · rw [g1, g2]
      go_enter Tryd.func27, Tryd.ntmps27
      go_wp2_with fail
      go_ret
      exact ⟨by simp, rfl⟩
set_option maxHeartbeats 1000000 in
set_option maxRecDepth 100000 in
theorem filter_any (l : List UInt8) (w : World) (hz : l.length ≤ 100000000) (hT : Lib.Utf8Tabs 3 4 w) :
    Calls Tryd.prog 25 #[.string ⟨l.toArray⟩] w fun e w' => e = .returned (.string ⟨(filterB l).toArray⟩) ∧ Below w.heap.size w w' := by
  have cS := hide (fun w => scheme_any l w (by omega))
  have hf : filterB l = if (schemeB l).2 && !allowB (schemeB l).1 then markerL else pctR true (repairR l) := rfl
  have cA := hide (fun w => allowed_any (schemeB l).1 w)
  have cP := hide (fun w hT => normal_any l w hz hT)
  generalize schemeB l = sc at cS hf cA
  obtain ⟨x, b⟩ := sc
  simp only at cS hf cA
  generalize allowB x = ab at cA hf
  cases b
  · have HF := hide (show filterB l = pctR true (repairR l) by rw [hf]; rfl)
    clear hf
    go_enter Tryd.func25, Tryd.ntmps25
    go_wp2_with fail
    refine (cS.out _).mono ?_
    rintro e w1 ⟨rfl, hb1⟩
    go_wp2_with (go_at_call 22; refine (cP.out _ (Utf8Tabs_below hT hb1)).mono ?_; rintro e w2 ⟨rfl, hb2⟩)
    go_ret
    exact ⟨by rw [HF.out]; rfl, below_step hb1 hb2⟩
  · cases ab
    · have HF := hide (show filterB l = markerL by rw [hf]; rfl)
      clear hf
      go_enter Tryd.func25, Tryd.ntmps25
      go_wp2_with fail
      refine (cS.out _).mono ?_
      rintro e w1 ⟨rfl, hb1⟩
      go_wp2_with (go_at_call 27; refine (cA.out _).mono ?_; rintro e w2 ⟨rfl, rfl⟩)
      go_ret
      exact ⟨by rw [HF.out]; rfl, hb1⟩
    · have HF := hide (show filterB l = pctR true (repairR l) by rw [hf]; rfl)
      clear hf
      go_enter Tryd.func25, Tryd.ntmps25
      go_wp2_with fail
      refine (cS.out _).mono ?_
      rintro e w1 ⟨rfl, hb1⟩
      go_wp2_with (first | (go_at_call 27; refine (cA.out _).mono ?_; rintro e w2 ⟨rfl, rfl⟩) | (go_at_call 22; refine (cP.out _ (Utf8Tabs_below hT hb1)).mono ?_; rintro e w2 ⟨rfl, hb2⟩))
      go_ret
      exact ⟨by rw [HF.out]; rfl, below_step hb1 hb2⟩
theorem u8tabs_keep {w w' : World} (h : Lib.Utf8Tabs 3 4 w) (hb : Below w.heap.size w w') : Lib.Utf8Tabs 3 4 w' := Utf8Tabs_below h hb
set_option maxHeartbeats 1000000 in
set_option maxRecDepth 100000 in
theorem alive08 (w : World) (hT : Lib.Utf8Tabs 3 4 w) : Calls Tryd.prog 28 #[] w fun e w' => e = .returned (.bool true) ∧ Below w.heap.size w w' := by
  have cF := filter_any [106, 97, 118, 97, 115, 99, 114, 105, 112, 116, 58, 120] w (by decide) hT
  rw [show filterB [106, 97, 118, 97, 115, 99, 114, 105, 112, 116, 58, 120] = [35, 90, 103, 111, 116, 109, 112, 108, 90] by decide +kernel] at cF
  have cA := fun w => allowed_any [104, 116, 116, 112, 115] w
  rw [show allowB [104, 116, 116, 112, 115] = true by decide] at cA
  have cF := hide cF; have cA := hide cA
  go_enter Tryd.func28, Tryd.ntmps28
  go_wp2_with (first | (go_at_call 25; refine (cF.out).mono ?_; rintro e w1 ⟨rfl, hb1⟩) | (go_at_call 27; refine (cA.out _).mono ?_; rintro e w2 ⟨rfl, rfl⟩))
  go_ret
  exact ⟨rfl, hb1⟩
end Go.Proofs.YtbcbbeenkndgcaaDoor
