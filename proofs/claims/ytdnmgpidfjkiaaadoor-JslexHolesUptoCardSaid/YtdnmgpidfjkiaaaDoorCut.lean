/-
  strings.Cut at one octet; strings.IndexByte; strings.CutPrefix at // .
-/
import Derived.Test.YtdnmgpidfjkiaaaDoorM1
import Derived.Test.YtdnmgpidfjkiaaaDoorOct
import Derived.Lib.TrimByte
namespace Go.Proofs.YtdnmgpidfjkiaaaDoor
open Go.RowKit
set_option linter.unusedVariables false
set_option linter.unusedSimpArgs false

theorem u8_back (c : UInt8) : ((c.toNat : Int)).toNat.toUInt8 = c := by simp
set_option maxHeartbeats 1000000 in
set_option maxRecDepth 100000 in
theorem sliteIndex_one (s : ByteArray) (c : UInt8) (w : World) :
    Calls Tryd.prog 155 #[.string s, .string ⟨#[c]⟩] w fun e w' => e = .returned (.int .i64 (Lib.indexByte s.data.toList c)) ∧ w = w' := by
  have cI := slite_IndexByte s (c.toNat : Int) w
  rw [u8_back] at cI
  obtain ⟨t, ht⟩ : ∃ t : ByteArray, (⟨#[c]⟩ : ByteArray) = t := ⟨_, rfl⟩
  have hz : (t.size : Int) = 1 := by rw [← ht]; rfl
  have hzn : t.size = 1 := by rw [← ht]; rfl
  have h0 : 0 < t.size := by omega
  have hc : t[0]'h0 = c := by subst ht; rfl
  rw [ht]
  rw [← hc] at cI ⊢
  rcases Bool.eq_false_or_eq_true (t.toList == s.toList) with he | he
  · have hi : Lib.indexByte s.data.toList (t[0]'h0) = 0 := by
      have e1 : t.toList = s.toList := by simpa using he
      rw [ByteArray.toList_eq, ByteArray.toList_eq] at e1
      rw [hc, ← e1, ← ht]
      simp [Lib.indexByte]
    rw [hi]
    clear ht hc hzn cI hi
    go_enter Tryd.func155, Tryd.ntmps155
    go_wp2_with fail
    go_ret
    exact ⟨rfl, rfl⟩
  · have cI := hide cI
    clear ht hc hzn
    go_enter Tryd.func155, Tryd.ntmps155
    go_wp2_with (go_at_call 124; refine (Hid.out cI).mono ?_; rintro e w' ⟨rfl, rfl⟩)
    go_ret
    exact ⟨rfl, rfl⟩
end Go.Proofs.YtdnmgpidfjkiaaaDoor
