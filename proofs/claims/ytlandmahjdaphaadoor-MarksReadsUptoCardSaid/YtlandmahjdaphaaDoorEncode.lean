/-
  percent.Encode.
-/
import Derived.Test.YtlandmahjdaphaaDoorWritten
namespace Go.Proofs.YtlandmahjdaphaaDoor
open Go.RowKit
set_option linter.unusedVariables false
set_option linter.unusedSimpArgs false

set_option maxHeartbeats 400000 in
set_option maxRecDepth 100000 in
theorem mayEncode : MayB 54 false := by
  intro l k c w hz hk hc
  have hlz : k < (⟨l.toArray⟩ : ByteArray).size := by rw [mk_size]; exact hk
  have hx : (⟨l.toArray⟩ : ByteArray)[k]'hlz = c := hc
  have hki : (k : Int) < (l.length : Int) := by omega
  have cU := hide (unres_any c w)
  have hkeep : keepB false c (l.drop (k + 1)) = unresB c := by simp [keepB]
  rw [hkeep]
  clear hkeep hc
  go_enter Tryd.func54, Tryd.ntmps54
  go_wp2_with (go_at_call 55; refine (cU.out).mono ?_; rintro e w1 ⟨rfl, rfl⟩)
  go_ret
  exact ⟨rfl, Below.refl _ _⟩
set_option maxHeartbeats 1000000 in
set_option maxRecDepth 100000 in
theorem encode_any (l : List UInt8) (w : World) (hz : l.length ≤ 100000000) (hT : Lib.Utf8Tabs 3 4 w) :
    Calls Tryd.prog 26 #[.string ⟨l.toArray⟩] w fun e w' => e = .returned (.string ⟨(pctR false (repairR l)).toArray⟩) ∧ Below w.heap.size w w' := by
  have cR := hide (utfRepair_any l w (by omega) hT)
  have hl := repairR_len l
  generalize repairR l = r at cR hl ⊢
  have cW := hide (fun w => written_any 54 (enters_of Tryd.func54 (by kernel_rfl) rfl) false mayEncode r w (by omega))
  generalize pctR false r = s at cW ⊢
  go_enter Tryd.func26, Tryd.ntmps26
  go_wp2_with fail
  refine (cR.out).mono ?_
  rintro e w1 ⟨rfl, hb1⟩
  go_wp2_with fail
  refine (cW.out _).mono ?_
  rintro e w2 ⟨rfl, hb2⟩
  go_wp2_with fail
  go_ret
  exact ⟨rfl, below_step hb1 hb2⟩
end Go.Proofs.YtlandmahjdaphaaDoor
