/-
  tables.Attribute; strings.HasPrefix.
-/
import Derived.Test.YtlandmahjdaphaaDoorProg
import Derived.Test.YtlandmahjdaphaaDoorAttrSpec
import Derived.WalkKit
import Derived.WalkSpells
import Derived.WalkLawsBesides
import Derived.Deep.RegionWith
namespace Go.Proofs.YtlandmahjdaphaaDoor
open Go.RowKit
set_option linter.unusedVariables false

set_option maxHeartbeats 400000 in
theorem hasPrefix_any (s p : ByteArray) (w : World) : Calls Tryd.prog 31 #[.string s, .string p] w fun e w' => e = .returned (.bool (Lib.hasPrefix s.data.toList p.data.toList)) ∧ w = w' := by
  rw [← Lib.hasPrefix_raw]
  by_cases h : (p.size : Int) ≤ (s.size : Int)
  · have h' : decide (p.size ≤ s.size) = true := by simp; omega
    rw [h']
    obtain ⟨b, hb⟩ : ∃ b, ((s.extract 0 p.size).toList == p.toList) = b := ⟨_, rfl⟩
    rw [hb]
    clear h'
    go_enter Tryd.func31, Tryd.ntmps31
    go_wp2
    go_ret
    exact ⟨rfl, rfl⟩
  · have h' : decide (p.size ≤ s.size) = false := by simp; omega
    rw [h']
    have h2 : decide ((p.size : Int) ≤ (s.size : Int)) = false := by simpa using h
    have h3 : (s.size : Int) < (p.size : Int) := by omega
    clear h h'
    go_enter Tryd.func31, Tryd.ntmps31
    go_wp2
    go_ret
    exact ⟨rfl, rfl⟩

set_option maxHeartbeats 4000000 in
set_option maxRecDepth 100000 in
theorem attribute_any (e a : ByteArray) (w : World) : Calls Tryd.prog 101 #[.string e, .string a] w fun r w' => r = .returned (.int .i64 (attrK e.data.toList a.data.toList)) ∧ w = w' := by
  have c1 := hide (fun w => hasPrefix_any a ⟨#[111, 110]⟩ w)
  have c2 := hide (fun w => hasPrefix_any a ⟨#[120, 109, 108, 110, 115]⟩ w)
  obtain ⟨l, hl⟩ : ∃ l, a.data.toList = l := ⟨_, rfl⟩
  have hl' : a.toList = l := by rw [ByteArray.toList_eq]; exact hl
  obtain ⟨m, hm⟩ : ∃ m, e.data.toList = m := ⟨_, rfl⟩
  have hm' : e.toList = m := by rw [ByteArray.toList_eq]; exact hm
  rw [hl] at c1 c2
  rw [hl, hm]
  clear hl hm
  by_cases h0 : l = [104, 114, 101, 102]
  · subst h0
    rw [show attrK m [104, 114, 101, 102] = 1 by rfl]
    go_enter Tryd.func101, Tryd.ntmps101
    go_wp2
    go_ret
    exact ⟨rfl, rfl⟩
  have f0 : (l == [104, 114, 101, 102]) = false := by simpa using h0
  by_cases h1 : l = [115, 114, 99]
  · subst h1
    rw [show attrK m [115, 114, 99] = 1 by rfl]
    go_enter Tryd.func101, Tryd.ntmps101
    go_wp2
    go_ret
    exact ⟨rfl, rfl⟩
  have f1 : (l == [115, 114, 99]) = false := by simpa using h1
  by_cases h2 : l = [97, 99, 116, 105, 111, 110]
  · subst h2
    rw [show attrK m [97, 99, 116, 105, 111, 110] = 1 by rfl]
    go_enter Tryd.func101, Tryd.ntmps101
    go_wp2
    go_ret
    exact ⟨rfl, rfl⟩
  have f2 : (l == [97, 99, 116, 105, 111, 110]) = false := by simpa using h2
  by_cases h3 : l = [102, 111, 114, 109, 97, 99, 116, 105, 111, 110]
  · subst h3
    rw [show attrK m [102, 111, 114, 109, 97, 99, 116, 105, 111, 110] = 1 by rfl]
    go_enter Tryd.func101, Tryd.ntmps101
    go_wp2
    go_ret
    exact ⟨rfl, rfl⟩
  have f3 : (l == [102, 111, 114, 109, 97, 99, 116, 105, 111, 110]) = false := by simpa using h3
  by_cases h4 : l = [99, 105, 116, 101]
  · subst h4
    rw [show attrK m [99, 105, 116, 101] = 1 by rfl]
    go_enter Tryd.func101, Tryd.ntmps101
    go_wp2
    go_ret
    exact ⟨rfl, rfl⟩
  have f4 : (l == [99, 105, 116, 101]) = false := by simpa using h4
  by_cases h5 : l = [112, 111, 115, 116, 101, 114]
  · subst h5
    rw [show attrK m [112, 111, 115, 116, 101, 114] = 1 by rfl]
    go_enter Tryd.func101, Tryd.ntmps101
    go_wp2
    go_ret
    exact ⟨rfl, rfl⟩
  have f5 : (l == [112, 111, 115, 116, 101, 114]) = false := by simpa using h5
  by_cases h6 : l = [98, 97, 99, 107, 103, 114, 111, 117, 110, 100]
  · subst h6
    rw [show attrK m [98, 97, 99, 107, 103, 114, 111, 117, 110, 100] = 1 by rfl]
    go_enter Tryd.func101, Tryd.ntmps101
    go_wp2
    go_ret
    exact ⟨rfl, rfl⟩
  have f6 : (l == [98, 97, 99, 107, 103, 114, 111, 117, 110, 100]) = false := by simpa using h6
  by_cases h7 : l = [108, 111, 110, 103, 100, 101, 115, 99]
  · subst h7
    rw [show attrK m [108, 111, 110, 103, 100, 101, 115, 99] = 1 by rfl]
    go_enter Tryd.func101, Tryd.ntmps101
    go_wp2
    go_ret
    exact ⟨rfl, rfl⟩
  have f7 : (l == [108, 111, 110, 103, 100, 101, 115, 99]) = false := by simpa using h7
  by_cases h8 : l = [109, 97, 110, 105, 102, 101, 115, 116]
  · subst h8
    rw [show attrK m [109, 97, 110, 105, 102, 101, 115, 116] = 1 by rfl]
    go_enter Tryd.func101, Tryd.ntmps101
    go_wp2
    go_ret
    exact ⟨rfl, rfl⟩
  have f8 : (l == [109, 97, 110, 105, 102, 101, 115, 116]) = false := by simpa using h8
  by_cases h9 : l = [105, 99, 111, 110]
  · subst h9
    rw [show attrK m [105, 99, 111, 110] = 1 by rfl]
    go_enter Tryd.func101, Tryd.ntmps101
    go_wp2
    go_ret
    exact ⟨rfl, rfl⟩
  have f9 : (l == [105, 99, 111, 110]) = false := by simpa using h9
  by_cases h10 : l = [100, 97, 116, 97]
  · subst h10
    rw [show attrK m [100, 97, 116, 97] = (if m == [111, 98, 106, 101, 99, 116] then 1 else 0) by rfl]
    rcases Bool.eq_false_or_eq_true (m == [111, 98, 106, 101, 99, 116]) with g | g
    · rw [g]
      go_enter Tryd.func101, Tryd.ntmps101
      go_wp2
      go_ret
      exact ⟨rfl, rfl⟩
    · rw [g]
      go_enter Tryd.func101, Tryd.ntmps101
      go_wp2
      go_ret
      exact ⟨rfl, rfl⟩
  have f10 : (l == [100, 97, 116, 97]) = false := by simpa using h10
  by_cases h11 : l = [115, 116, 121, 108, 101]
  · subst h11
    rw [show attrK m [115, 116, 121, 108, 101] = 3 by rfl]
    go_enter Tryd.func101, Tryd.ntmps101
    go_wp2
    go_ret
    exact ⟨rfl, rfl⟩
  have f11 : (l == [115, 116, 121, 108, 101]) = false := by simpa using h11
  by_cases h12 : l = [115, 114, 99, 100, 111, 99]
  · subst h12
    rw [show attrK m [115, 114, 99, 100, 111, 99] = 4 by rfl]
    go_enter Tryd.func101, Tryd.ntmps101
    go_wp2
    go_ret
    exact ⟨rfl, rfl⟩
  have f12 : (l == [115, 114, 99, 100, 111, 99]) = false := by simpa using h12
  by_cases h13 : l = [115, 114, 99, 115, 101, 116]
  · subst h13
    rw [show attrK m [115, 114, 99, 115, 101, 116] = 4 by rfl]
    go_enter Tryd.func101, Tryd.ntmps101
    go_wp2
    go_ret
    exact ⟨rfl, rfl⟩
  have f13 : (l == [115, 114, 99, 115, 101, 116]) = false := by simpa using h13
  by_cases h14 : l = [104, 116, 116, 112, 45, 101, 113, 117, 105, 118]
  · subst h14
    rw [show attrK m [104, 116, 116, 112, 45, 101, 113, 117, 105, 118] = 4 by rfl]
    go_enter Tryd.func101, Tryd.ntmps101
    go_wp2
    go_ret
    exact ⟨rfl, rfl⟩
  have f14 : (l == [104, 116, 116, 112, 45, 101, 113, 117, 105, 118]) = false := by simpa using h14
  by_cases h15 : l = [112, 105, 110, 103]
  · subst h15
    rw [show attrK m [112, 105, 110, 103] = 4 by rfl]
    go_enter Tryd.func101, Tryd.ntmps101
    go_wp2
    go_ret
    exact ⟨rfl, rfl⟩
  have f15 : (l == [112, 105, 110, 103]) = false := by simpa using h15
  by_cases h16 : l = []
  · subst h16
    rw [show attrK m [] = 4 by rfl]
    go_enter Tryd.func101, Tryd.ntmps101
    go_wp2
    go_ret
    exact ⟨rfl, rfl⟩
  have f16 : (l == []) = false := by simpa using h16
  have hk : attrK m l = (if Lib.hasPrefix l [111, 110] then 2 else if Lib.hasPrefix l [120, 109, 108, 110, 115] then 4 else 0) := by
    unfold attrK urlAttrs barredAttrs
    simp only [isOneOf, f0, f1, f2, f3, f4, f5, f6, f7, f8, f9, f10, f11, f12, f13, f14, f15, f16, Bool.or_self, Bool.false_eq_true, if_false]
  rw [hk]
  clear hk h0 h1 h2 h3 h4 h5 h6 h7 h8 h9 h10 h11 h12 h13 h14 h15 h16
  rw [show (ByteArray.mk #[111, 110]).data.toList = [111, 110] from rfl] at c1
  rw [show (ByteArray.mk #[120, 109, 108, 110, 115]).data.toList = [120, 109, 108, 110, 115] from rfl] at c2
  generalize Lib.hasPrefix l [111, 110] = b1 at c1 ⊢
  generalize Lib.hasPrefix l [120, 109, 108, 110, 115] = b2 at c2 ⊢
  have g16 : l.isEmpty = false := by cases l with | nil => simp at f16 | cons c r => rfl
  cases b1 <;> cases b2
  all_goals
    go_enter Tryd.func101, Tryd.ntmps101
    go_wp2_with (first
      | (go_at_call_of 31 (Value.string ⟨#[111, 110]⟩); refine (c1.out _).mono ?_; rintro e w1 ⟨rfl, rfl⟩)
      | (go_at_call_of 31 (Value.string ⟨#[120, 109, 108, 110, 115]⟩); refine (c2.out _).mono ?_; rintro e w1 ⟨rfl, rfl⟩))
    go_ret
    exact ⟨rfl, rfl⟩
end Go.Proofs.YtlandmahjdaphaaDoor
