/-
  tables.Element.
-/
import Derived.Test.YtbcbbeenkndgcaaDoorProg
import Derived.Test.YtbcbbeenkndgcaaDoorDec
import Derived.WalkKit
import Derived.WalkSpells
import Derived.WalkLawsBesides
namespace Go.Proofs.YtbcbbeenkndgcaaDoor
open Go.RowKit
set_option linter.unusedVariables false

/-- What tables.Element answers. -/
def elemK (e : List UInt8) : Int :=
  if e == [116, 105, 116, 108, 101] then 1 else
  if e == [116, 101, 120, 116, 97, 114, 101, 97] then 1 else
  if e == [115, 116, 121, 108, 101] then 2 else
  if e == [115, 99, 114, 105, 112, 116] then 3 else
  if e == [112, 108, 97, 105, 110, 116, 101, 120, 116] then 4 else
  if e == [120, 109, 112] then 4 else
  if e == [105, 102, 114, 97, 109, 101] then 4 else
  if e == [110, 111, 101, 109, 98, 101, 100] then 4 else
  if e == [110, 111, 102, 114, 97, 109, 101, 115] then 4 else
  if e == [110, 111, 115, 99, 114, 105, 112, 116] then 4 else
  0
set_option maxHeartbeats 4000000 in
set_option maxRecDepth 100000 in
theorem element_any (a : ByteArray) (w : World) : Calls Tryd.prog 38 #[.string a] w fun r w' => r = .returned (.int .i64 (elemK a.data.toList)) ∧ w = w' := by
  obtain ⟨l, hl⟩ : ∃ l, a.data.toList = l := ⟨_, rfl⟩
  have hl' : a.toList = l := by rw [ByteArray.toList_eq]; exact hl
  rw [hl]
  clear hl
  by_cases h0 : l = [116, 105, 116, 108, 101]
  · subst h0
    rw [show elemK [116, 105, 116, 108, 101] = 1 by rfl]
    go_enter Tryd.func38, Tryd.ntmps38
    go_wp2
    go_ret
    exact ⟨rfl, rfl⟩
  have f0 : (l == [116, 105, 116, 108, 101]) = false := by simpa using h0
  by_cases h1 : l = [116, 101, 120, 116, 97, 114, 101, 97]
  · subst h1
    rw [show elemK [116, 101, 120, 116, 97, 114, 101, 97] = 1 by rfl]
    go_enter Tryd.func38, Tryd.ntmps38
    go_wp2
    go_ret
    exact ⟨rfl, rfl⟩
  have f1 : (l == [116, 101, 120, 116, 97, 114, 101, 97]) = false := by simpa using h1
  by_cases h2 : l = [115, 116, 121, 108, 101]
  · subst h2
    rw [show elemK [115, 116, 121, 108, 101] = 2 by rfl]
    go_enter Tryd.func38, Tryd.ntmps38
    go_wp2
    go_ret
    exact ⟨rfl, rfl⟩
  have f2 : (l == [115, 116, 121, 108, 101]) = false := by simpa using h2
  by_cases h3 : l = [115, 99, 114, 105, 112, 116]
  · subst h3
    rw [show elemK [115, 99, 114, 105, 112, 116] = 3 by rfl]
    go_enter Tryd.func38, Tryd.ntmps38
    go_wp2
    go_ret
    exact ⟨rfl, rfl⟩
  have f3 : (l == [115, 99, 114, 105, 112, 116]) = false := by simpa using h3
  by_cases h4 : l = [112, 108, 97, 105, 110, 116, 101, 120, 116]
  · subst h4
    rw [show elemK [112, 108, 97, 105, 110, 116, 101, 120, 116] = 4 by rfl]
    go_enter Tryd.func38, Tryd.ntmps38
    go_wp2
    go_ret
    exact ⟨rfl, rfl⟩
  have f4 : (l == [112, 108, 97, 105, 110, 116, 101, 120, 116]) = false := by simpa using h4
  by_cases h5 : l = [120, 109, 112]
  · subst h5
    rw [show elemK [120, 109, 112] = 4 by rfl]
    go_enter Tryd.func38, Tryd.ntmps38
    go_wp2
    go_ret
    exact ⟨rfl, rfl⟩
  have f5 : (l == [120, 109, 112]) = false := by simpa using h5
  by_cases h6 : l = [105, 102, 114, 97, 109, 101]
  · subst h6
    rw [show elemK [105, 102, 114, 97, 109, 101] = 4 by rfl]
    go_enter Tryd.func38, Tryd.ntmps38
    go_wp2
    go_ret
    exact ⟨rfl, rfl⟩
  have f6 : (l == [105, 102, 114, 97, 109, 101]) = false := by simpa using h6
  by_cases h7 : l = [110, 111, 101, 109, 98, 101, 100]
  · subst h7
    rw [show elemK [110, 111, 101, 109, 98, 101, 100] = 4 by rfl]
    go_enter Tryd.func38, Tryd.ntmps38
    go_wp2
    go_ret
    exact ⟨rfl, rfl⟩
  have f7 : (l == [110, 111, 101, 109, 98, 101, 100]) = false := by simpa using h7
  by_cases h8 : l = [110, 111, 102, 114, 97, 109, 101, 115]
  · subst h8
    rw [show elemK [110, 111, 102, 114, 97, 109, 101, 115] = 4 by rfl]
    go_enter Tryd.func38, Tryd.ntmps38
    go_wp2
    go_ret
    exact ⟨rfl, rfl⟩
  have f8 : (l == [110, 111, 102, 114, 97, 109, 101, 115]) = false := by simpa using h8
  by_cases h9 : l = [110, 111, 115, 99, 114, 105, 112, 116]
  · subst h9
    rw [show elemK [110, 111, 115, 99, 114, 105, 112, 116] = 4 by rfl]
    go_enter Tryd.func38, Tryd.ntmps38
    go_wp2
    go_ret
    exact ⟨rfl, rfl⟩
  have f9 : (l == [110, 111, 115, 99, 114, 105, 112, 116]) = false := by simpa using h9
  have hk : elemK l = 0 := by
    unfold elemK
    simp only [f0, f1, f2, f3, f4, f5, f6, f7, f8, f9, Bool.false_eq_true, if_false]
  rw [hk]
  clear hk h0 h1 h2 h3 h4 h5 h6 h7 h8 h9
  go_enter Tryd.func38, Tryd.ntmps38
  go_wp2
  go_ret
  exact ⟨rfl, rfl⟩
end Go.Proofs.YtbcbbeenkndgcaaDoor
