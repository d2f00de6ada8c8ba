/-
  muslinlaw05: num, alive.
-/
import Derived.Test.YtdnmgpidfjkiaaaDoorM4
import Derived.Test.YtdnmgpidfjkiaaaDoorM2
import Derived.Test.YtdnmgpidfjkiaaaDoorQuote
namespace Go.Proofs.YtdnmgpidfjkiaaaDoor
open Go.RowKit
set_option linter.unusedVariables false
set_option linter.unusedSimpArgs false

theorem ba_listL (a : ByteArray) : ∃ s : List UInt8, a = ⟨s.toArray⟩ := ⟨a.data.toList, by cases a; simp⟩
set_option maxHeartbeats 400000 in
theorem num05_any (y : Int) (w : World) : Calls Tryd.prog 13 #[.int .i64 y] w fun e w' => e = .returned (.int .i64 y) ∧ w = w' := by
  go_enter Tryd.func13, Tryd.ntmps13
  go_wp2_with fail
  go_ret
  exact ⟨rfl, rfl⟩
theorem read_three : readR risingK [91, 49, 93] = .ok (⟨5, 0, [], [(⟨3, 1, [], [], []⟩ : VN (VT 15))], []⟩ : VN (VT 16)) [] := by rfl
theorem quote_lt : (34 :: (escR [60] ++ [34])) = [34, 92, 117, 48, 48, 51, 99, 34] := by
  have h : charsR [60] = [60] := by decide +kernel
  unfold escR
  rw [h]
  decide +kernel
set_option maxHeartbeats 1000000 in
set_option maxRecDepth 100000 in
theorem alive05 (w : World) (hT : Lib.Utf8Tabs 3 4 w) : Calls Tryd.prog 11 #[] w fun e w' => e = .returned (.bool true) ∧ Below w.heap.size w w' := by
  have cR := hide (read_any [91, 49, 93] w (by decide))
  have cQ := hide (fun W (h : Below w.heap.size w W) => quote_any [60] W (by decide) (Utf8Tabs_below hT h))
  clear hT
  go_enter Tryd.func11, Tryd.ntmps11
  go_wp2_with fail
  refine cR.out.mono ?_
  rintro e w1 (⟨d, v, hd, rfl, hV, hb⟩ | ⟨y, hd, _⟩)
  · rw [read_three] at hd
    injection hd with hd _
    subst hd
    obtain ⟨a, c, a2, c2, rfl, _, _⟩ := hV.parts
    clear hV
    simp only [List.length_cons, List.length_nil, Nat.zero_add]
    have hB := (hb.alloc hb.size (.cells #[.int .i64 5, .int .i64 0, .string ⟨#[]⟩, .slice a 1 c, .slice a2 0 c2] 26))
    go_wp2_with (first | (go_at_call 13; refine (num05_any _ _).mono ?_; rintro e w2 ⟨rfl, rfl⟩) | (go_at_call 34; refine (cQ.out _ hB).mono ?_; rintro e w2 ⟨rfl, hb2⟩; rw [quote_lt]))
    go_ret
    exact ⟨rfl, hB.trans (hb2.mono hB.size)⟩
  · rw [read_three] at hd
    cases hd
end Go.Proofs.YtdnmgpidfjkiaaaDoor
