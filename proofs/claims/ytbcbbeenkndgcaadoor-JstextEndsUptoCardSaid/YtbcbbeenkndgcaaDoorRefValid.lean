/-
  muslinref01.Valid.
-/
import Derived.Test.YtbcbbeenkndgcaaDoorRefUtf3
namespace Go.Proofs.YtbcbbeenkndgcaaDoor
open Go.RowKit
set_option linter.unusedVariables false
set_option linter.unusedSimpArgs false

set_option maxHeartbeats 4000000 in
set_option maxRecDepth 100000 in
theorem refValid_any (l : List UInt8) (w : World) (hz : l.length ≤ 1000000000) :
    Calls Tryd.prog 21 #[.string ⟨l.toArray⟩] w fun e w' => e = .returned (.bool (validR l)) ∧ Below w.heap.size w w' := by
  have hst : Hid (validR (l.drop 0) = validR l) := rfl
  generalize validR l = R at hst ⊢
  go_enter Tryd.func21, Tryd.ntmps21
  go_wp2
  go_loopw [3] (fun i wr => ∃ (k : Nat), i = .int .i64 (k : Int) ∧ k ≤ l.length ∧ Below w.heap.size w wr ∧ Hid (validR (l.drop k) = R)) (fun i _ => l.length - (intOf i).toNat)
  case atStart => exact ⟨0, rfl, Nat.zero_le _, Below.refl _ _, hst⟩
  case round =>
    obtain ⟨k, rfl, hk, hb, hch⟩ := hrel
    by_cases hlt : k < l.length
    · have cD := refDecode_any (l.drop k) wr (by rw [List.length_drop]; omega)
      rw [← drop_str] at cD
      have hne : l.drop k ≠ [] := by intro e; have := congrArg List.length e; rw [List.length_drop] at this; simp at this; omega
      have hp := decR_pos (l.drop k) hne
      have hv := hch.out
      rw [validR_cons _ hne, List.drop_drop] at hv
      rw [List.length_drop] at hp
      generalize decR (l.drop k) = d at cD hp hv
      obtain ⟨c, n⟩ := d
      simp only at cD hp hv
      have cD := hide cD
      obtain ⟨hp1, hp2⟩ := hp
      have hkl : (k : Int) < (l.length : Int) := by omega
      by_cases hc : c < 0
      · rw [if_pos hc] at hv
        subst hv
        clear hst hch hne
        go_wp2_with fail
        refine (cD.out).mono ?_
        rintro e w1 ⟨rfl, hb1⟩
        have hbb := hb.trans (hb1.mono hb.size)
        go_wp2_with fail
        go_ret
        exact ⟨rfl, hbb⟩
      · rw [if_neg hc] at hv
        have HV := hide hv
        have hcd : decide (c < 0) = false := by simpa using hc
        clear hv hne hch hc
        go_wp2_with fail
        refine (cD.out).mono ?_
        rintro e w1 ⟨rfl, hb1⟩
        have hbb := hb.trans (hb1.mono hb.size)
        go_wp2_with fail
        go_roundw
        case rel => exact ⟨k + n, by go_num, by omega, hbb, HV⟩
        case measure => simp [intOf]; omega
    · have hk2 : k = l.length := by omega
      have hR : R = true := by rw [← hch.out, hk2, List.drop_length, validR_nil]
      subst hR
      clear hk2 hch hst
      go_wp2
      go_ret
      exact ⟨rfl, hb⟩
end Go.Proofs.YtbcbbeenkndgcaaDoor
