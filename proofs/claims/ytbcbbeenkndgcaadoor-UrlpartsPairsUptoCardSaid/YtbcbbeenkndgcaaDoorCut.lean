/-
  strings.Cut at one octet; strings.IndexByte; strings.CutPrefix at // .
-/
import Derived.Test.YtbcbbeenkndgcaaDoorUrlSpec
import Derived.Test.YtbcbbeenkndgcaaDoorOct
import Derived.Lib.TrimByte
namespace Go.Proofs.YtbcbbeenkndgcaaDoor
open Go.RowKit
set_option linter.unusedVariables false
set_option linter.unusedSimpArgs false

theorem u8_back (c : UInt8) : ((c.toNat : Int)).toNat.toUInt8 = c := by simp
set_option maxHeartbeats 1000000 in
set_option maxRecDepth 100000 in
theorem sliteIndex_one (s : ByteArray) (c : UInt8) (w : World) :
    Calls Tryd.prog 120 #[.string s, .string ⟨#[c]⟩] w fun e w' => e = .returned (.int .i64 (Lib.indexByte s.data.toList c)) ∧ w = w' := by
  have cI := slite_IndexByte s (c.toNat : Int) w
  rw [u8_back] at cI
  obtain ⟨t, ht⟩ : ∃ t : ByteArray, (⟨#[c]⟩ : ByteArray) = t := ⟨_, rfl⟩
  have hz : (t.size : Int) = 1 := by rw [← ht]; rfl
  have hzn : t.size = 1 := by rw [← ht]; rfl
  have h0 : 0 < t.size := by omega
  have hc : t[0]'h0 = c := by subst ht; rfl
  rw [ht]
  rw [← hc] at cI ⊢
  rcases Bool.eq_false_or_eq_true (t.toList == s.toList) with he | he
  · have hi : Lib.indexByte s.data.toList (t[0]'h0) = 0 := by
      have e1 : t.toList = s.toList := by simpa using he
      rw [ByteArray.toList_eq, ByteArray.toList_eq] at e1
      rw [hc, ← e1, ← ht]
      simp [Lib.indexByte]
    rw [hi]
    clear ht hc hzn cI hi
    go_enter Tryd.func120, Tryd.ntmps120
    go_wp2_with fail
    go_ret
    exact ⟨rfl, rfl⟩
  · have cI := hide cI
    clear ht hc hzn
    go_enter Tryd.func120, Tryd.ntmps120
    go_wp2_with (go_at_call 89; refine (Hid.out cI).mono ?_; rintro e w' ⟨rfl, rfl⟩)
    go_ret
    exact ⟨rfl, rfl⟩
set_option maxHeartbeats 1000000 in
set_option maxRecDepth 100000 in
theorem sliteCut_any (l : List UInt8) (c : UInt8) (w : World) (hl : l.length ≤ 4611686018427387903) :
    Calls Tryd.prog 98 #[.string ⟨l.toArray⟩, .string ⟨#[c]⟩] w fun e w' => e = .returned (.tuple #[.string ⟨(cutB c l).1.toArray⟩, .string ⟨(cutB c l).2.1.toArray⟩, .bool (cutB c l).2.2]) ∧ Below w.heap.size w w' := by
  obtain ⟨s, hs⟩ : ∃ s : ByteArray, (⟨l.toArray⟩ : ByteArray) = s := ⟨_, rfl⟩
  have hz : s.size = l.length := by rw [← hs]; exact mk_size l
  have hd : s.data.toList = l := by rw [← hs]
  have cI := sliteIndex_one s c w
  rw [hd] at cI
  rw [hs]
  rcases cutB_idx c l with ⟨h1, h2⟩ | ⟨k, h1, h2, h3⟩
  · rw [h1] at cI
    rw [h2]
    rw [show (⟨((l, ([] : List UInt8), false).1).toArray⟩ : ByteArray) = s from hs]
    have H := hide (And.intro hs (And.intro hz (And.intro hd (And.intro h1 h2))))
    have cI := hide cI
    clear hs hz hd h1 h2
    go_enter Tryd.func98, Tryd.ntmps98
    go_wp2_with (go_at_call 120; refine (Hid.out cI).mono ?_; rintro e w' ⟨rfl, rfl⟩)
    go_ret3
    exact ⟨rfl, Below.refl _ _⟩
  · rw [h1] at cI
    have e1 : (⟨(cutB c l).1.toArray⟩ : ByteArray) = s.extract 0 k := by rw [Lib.extract_upto, hd, h3]
    have e2 : (⟨(cutB c l).2.1.toArray⟩ : ByteArray) = s.extract (k + 1) s.size := by rw [Lib.extract_from, hd, h3]
    rw [e1, e2, show (cutB c l).2.2 = true by rw [h3]]
    have c1 : (0 : Int) ≤ (k : Int) := by omega
    have c2 : (k : Int) ≤ (s.size : Int) := by omega
    have c3 : (0 : Int) ≤ (k : Int) + 1 := by omega
    have c4 : (k : Int) + 1 ≤ (s.size : Int) := by omega
    have c5 : (s.size : Int) ≤ 4611686018427387903 := by omega
    have c6 : ((k : Int) + 1).toNat = k + 1 := by omega
    have H := hide (And.intro hs (And.intro hz (And.intro hd (And.intro h1 (And.intro h3 (And.intro e1 e2))))))
    have cI := hide cI
    clear hs hz hd h1 h3 e1 e2
    go_enter Tryd.func98, Tryd.ntmps98
    go_wp2_with (go_at_call 120; refine (Hid.out cI).mono ?_; rintro e w' ⟨rfl, rfl⟩)
    go_region
    all_goals
      go_wp2
      go_ret3
      exact ⟨rfl, (Below.refl _ _).drew⟩
theorem cut_any (l : List UInt8) (c : UInt8) (w : World) (hl : l.length ≤ 4611686018427387903) :
    Calls Tryd.prog 70 #[.string ⟨l.toArray⟩, .string ⟨#[c]⟩] w fun e w' => e = .returned (.tuple #[.string ⟨(cutB c l).1.toArray⟩, .string ⟨(cutB c l).2.1.toArray⟩, .bool (cutB c l).2.2]) ∧ Below w.heap.size w w' := by
  have cI := hide (sliteCut_any l c w hl)
  go_enter Tryd.func70, Tryd.ntmps70
  go_wp2_with (go_at_call 98; refine (Hid.out cI).mono ?_; rintro e w' ⟨rfl, hb⟩)
  go_ret3
  exact ⟨rfl, hb⟩
end Go.Proofs.YtbcbbeenkndgcaaDoor
