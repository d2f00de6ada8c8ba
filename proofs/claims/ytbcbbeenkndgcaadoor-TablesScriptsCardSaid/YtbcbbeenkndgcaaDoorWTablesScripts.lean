/-
  TablesScripts: whatever begins with on is a script, of whatever element; behind another octet it is not. THE WALK.
-/
import Derived.Test.YtbcbbeenkndgcaaDoorLaw11
import Derived.Test.YtbcbbeenkndgcaaDoorStr
namespace Go.Proofs.YtbcbbeenkndgcaaDoor
open Go.RowKit
set_option linter.unusedVariables false

theorem attrK_on (e l : List UInt8) : attrK e (111 :: 110 :: l) = 2 := by
  unfold attrK urlAttrs barredAttrs
  simp [isOneOf, Lib.hasPrefix]
theorem attrK_q (e l : List UInt8) : attrK e (113 :: 45 :: 111 :: 110 :: l) = 0 := by
  unfold attrK urlAttrs barredAttrs
  simp [isOneOf, Lib.hasPrefix]

set_option maxHeartbeats 1000000 in
set_option maxRecDepth 100000 in
theorem tablesScripts_walk (a0 : ByteArray) (s0 : a0.size ≤ 140737488351232) (a1 : ByteArray) (s1 : a1.size ≤ 140737488351232) (w : World) (htab : Lib.TabIs Tryd.prog w "strings.asciiSpace" .u8 Lib.asciiSpaceTab) :
    Calls Tryd.prog 10 #[.string a0, .string a1] w fun e w' => e = .returned (.bool true) ∧ Below w.heap.size w w' := by
  have c1 := hide (fun w => attribute_any a0 (⟨#[111, 110]⟩ ++ a1) w)
  have c2 := hide (fun w => attribute_any a0 (⟨#[113, 45, 111, 110]⟩ ++ a1) w)
  rw [show ((⟨#[111, 110]⟩ : ByteArray) ++ a1).data.toList = 111 :: 110 :: a1.data.toList by simp, attrK_on] at c1
  rw [show ((⟨#[113, 45, 111, 110]⟩ : ByteArray) ++ a1).data.toList = 113 :: 45 :: 111 :: 110 :: a1.data.toList by simp, attrK_q] at c2
  have c3 := hide (fun w' (hb : Below w.heap.size w w') => alive11 w' (tabs_below gSpace htab hb))
  have s2 : (a1.size : Int) ≤ 140737488351232 := by omega
  go_enter Tryd.func10, Tryd.ntmps10
  go_wp2_with (first
    | (go_at_call_of 36 (Value.string ((⟨#[111, 110]⟩ : ByteArray) ++ a1)); refine (c1.out _).mono ?_; rintro e w1 ⟨rfl, rfl⟩)
    | (go_at_call_of 36 (Value.string ((⟨#[113, 45, 111, 110]⟩ : ByteArray) ++ a1)); refine (c2.out _).mono ?_; rintro e w1 ⟨rfl, rfl⟩)
    | (go_at_call 37; refine (c3.out _ (Below.refl _ _)).mono ?_; rintro e w3 ⟨rfl, hb3⟩))
  go_ret
  exact ⟨rfl, hb3⟩
end Go.Proofs.YtbcbbeenkndgcaaDoor
