/-
  muslinref01 on octets: Blank, Letter, Digit, Trim, Starts.
-/
import Derived.Test.YtmgjhofecncgnaaDoorRefOct
import Derived.Test.YtmgjhofecncgnaaDoorFuncB
import Derived.Test.YtmgjhofecncgnaaDoorWOctetsCases
namespace Go.Proofs.YtmgjhofecncgnaaDoor
open Go.RowKit
set_option linter.unusedVariables false
set_option linter.unusedSimpArgs false

theorem blank_ors (c : UInt8) : isBlank c = ((c.toNat : Int) == 32 || ((c.toNat : Int) == 9 || ((c.toNat : Int) == 10 || ((c.toNat : Int) == 12 || (c.toNat : Int) == 13)))) := by
  have := allBytes (fun c => isBlank c == ((c.toNat : Int) == 32 || ((c.toNat : Int) == 9 || ((c.toNat : Int) == 10 || ((c.toNat : Int) == 12 || (c.toNat : Int) == 13))))) (by decide +kernel) c
  simpa using this
set_option maxHeartbeats 1000000 in
theorem refBlank_any (c : UInt8) (w : World) : Calls Tryd.prog 6 #[.int .u8 (c.toNat : Int)] w fun e w' => e = .returned (.bool (isBlank c)) ∧ w = w' := by
  have hb := blank_ors c
  generalize (c.toNat : Int) = x at hb ⊢
  rcases Bool.eq_false_or_eq_true (x == 32) with e0 | e0
  · rw [show isBlank c = true by rw [hb]; simp [e0]]
    clear hb
    go_enter Tryd.func6, Tryd.ntmps6
    go_wp2
    go_ret
    exact ⟨rfl, rfl⟩
  rcases Bool.eq_false_or_eq_true (x == 9) with e1 | e1
  · rw [show isBlank c = true by rw [hb]; simp [e0, e1]]
    clear hb
    go_enter Tryd.func6, Tryd.ntmps6
    go_wp2
    go_ret
    exact ⟨rfl, rfl⟩
  rcases Bool.eq_false_or_eq_true (x == 10) with e2 | e2
  · rw [show isBlank c = true by rw [hb]; simp [e0, e1, e2]]
    clear hb
    go_enter Tryd.func6, Tryd.ntmps6
    go_wp2
    go_ret
    exact ⟨rfl, rfl⟩
  rcases Bool.eq_false_or_eq_true (x == 12) with e3 | e3
  · rw [show isBlank c = true by rw [hb]; simp [e0, e1, e2, e3]]
    clear hb
    go_enter Tryd.func6, Tryd.ntmps6
    go_wp2
    go_ret
    exact ⟨rfl, rfl⟩
  rcases Bool.eq_false_or_eq_true (x == 13) with e4 | e4
  · rw [show isBlank c = true by rw [hb]; simp [e0, e1, e2, e3, e4]]
    clear hb
    go_enter Tryd.func6, Tryd.ntmps6
    go_wp2
    go_ret
    exact ⟨rfl, rfl⟩
  rw [show isBlank c = false by rw [hb]; simp [e0, e1, e2, e3, e4]]
  clear hb
  go_enter Tryd.func6, Tryd.ntmps6
  go_wp2
  go_ret
  exact ⟨rfl, rfl⟩

theorem trimR_cons_no (b : UInt8) (r : List UInt8) (h : isBlank b = false) : trimR (b :: r) = b :: trimR r := by
  unfold trimR
  rw [List.reverse_cons, drop_snoc_no _ _ h]
  simp
theorem trimR_cons_blank (b : UInt8) (r : List UInt8) (h : isBlank b = true) : trimR (b :: r) = if trimR r = [] then [] else b :: trimR r := by
  unfold trimR
  rw [List.reverse_cons, drop_snoc_blank _ _ h]
  by_cases h2 : List.dropWhile isBlank r.reverse = []
  · simp [h2]
  · simp [h2]
theorem trimR_drop (l : List UInt8) : trimR (l.dropWhile isBlank) = trimL l := by
  unfold trimL
  induction l with
  | nil => rfl
  | cons b r ih =>
    cases hb : isBlank b
    · rw [List.dropWhile_cons, hb, trimR_cons_no _ _ hb, List.dropWhile_cons, hb]
      simp [trimR_cons_no _ _ hb]
    · rw [List.dropWhile_cons, hb, if_pos rfl, ih, trimR_cons_blank _ _ hb]
      by_cases h2 : trimR r = []
      · rw [if_pos h2, h2]
      · rw [if_neg h2, List.dropWhile_cons, hb]; simp
theorem drop_at (s : ByteArray) (k : Nat) (h : k < s.size) : s.data.toList.drop k = (s[k]'h) :: s.data.toList.drop (k + 1) := by
  have h0 := at_data s k h
  obtain ⟨h1, h2⟩ := List.getElem?_eq_some_iff.1 h0
  rw [List.drop_eq_getElem_cons h1, h2]
theorem take_at (s : ByteArray) (k j : Nat) (h : k < j) (hj : j ≤ s.size) : (s.data.toList.drop k).take (j - k) = (s.data.toList.drop k).take (j - 1 - k) ++ [s[j - 1]'(by omega)] := by
  have h0 := at_data s (j - 1) (by omega)
  rw [show j - k = (j - 1 - k) + 1 by omega, List.take_add_one, List.getElem?_drop, show k + (j - 1 - k) = j - 1 by omega, h0]
  rfl

set_option maxHeartbeats 2000000 in
set_option maxRecDepth 100000 in
theorem refTrim_any (s : ByteArray) (w : World) (hs : s.size ≤ 140737488351232) :
    Calls Tryd.prog 18 #[.string s] w fun e w' => e = .returned (.string ⟨(trimL s.data.toList).toArray⟩) ∧ w = w' := by
  go_enter Tryd.func18, Tryd.ntmps18
  go_wp2
  go_loop [3] (fun i => ∃ k : Nat, i = .int .i64 (k : Int) ∧ k ≤ s.size ∧ Hid ((s.data.toList.drop k).dropWhile isBlank = s.data.toList.dropWhile isBlank)) (fun i => s.size - (intOf i).toNat)
  case atStart => exact ⟨0, rfl, Nat.zero_le _, rfl⟩
  case round =>
    obtain ⟨k, rfl, hk, hrel⟩ := hrel
    by_cases hlt : k < s.size
    · have hd := drop_at s k hlt
      obtain ⟨c, hc⟩ : ∃ c, s[k]'hlt = c := ⟨_, rfl⟩
      rw [hc] at hd
      have cB := hide (fun w => refBlank_any c w)
      rcases Bool.eq_false_or_eq_true (isBlank c) with hb | hb
      · rw [hb] at cB
        have HF := hide (show (s.data.toList.drop (k + 1)).dropWhile isBlank = s.data.toList.dropWhile isBlank by rw [← hrel.out, hd, List.dropWhile_cons, hb]; rfl)
        clear hd hb
        go_wp2_with (go_at_call 6; refine (cB.out _).mono ?_; rintro e w1 ⟨rfl, rfl⟩)
        go_round
        case rel => exact ⟨k + 1, by go_num, by omega, HF⟩
        case measure => simp [intOf]; omega
      · rw [hb] at cB
        have HD := hide (show s.data.toList.drop k = s.data.toList.dropWhile isBlank by rw [← hrel.out, hd, List.dropWhile_cons, hb]; rfl)
        clear hd hb
        go_wp2_with (go_at_call 6; refine (cB.out _).mono ?_; rintro e w1 ⟨rfl, rfl⟩)
        clear cB
        go_loop [4] (fun i => ∃ j : Nat, i = .int .i64 (j : Int) ∧ k ≤ j ∧ j ≤ s.size ∧ Hid (trimR ((s.data.toList.drop k).take (j - k)) = trimL s.data.toList)) (fun i => (intOf i).toNat)
        case atStart => exact ⟨s.size, rfl, hk, Nat.le_refl _, by show _ = _; rw [List.take_of_length_le (by rw [List.length_drop, size_list]; exact Nat.le_refl _), HD.out, trimR_drop]⟩
        case round =>
          obtain ⟨j, rfl, hkj, hjs, hrel2⟩ := hrel
          by_cases hj : k < j
          · have ht := take_at s k j hj hjs
            have hj1 : j - 1 < s.size := by omega
            obtain ⟨d, hd⟩ : ∃ d, s[j - 1]'hj1 = d := ⟨_, rfl⟩
            rw [hd] at ht
            have cB := hide (fun w => refBlank_any d w)
            have hsub : ((j : Int) - 1).toNat = j - 1 := by omega
            have hj2 : (k : Int) < (j : Int) := by omega
            have hj3 : (j : Int) ≤ (s.size : Int) := by omega
            rcases Bool.eq_false_or_eq_true (isBlank d) with hb2 | hb2
            · rw [hb2] at cB
              have HF := hide (show trimR ((s.data.toList.drop k).take (j - 1 - k)) = trimL s.data.toList by rw [← hrel2.out, ht, trimR_blank _ _ hb2])
              clear ht hb2
              go_wp2_with (go_at_call 6; refine (cB.out _).mono ?_; rintro e w1 ⟨rfl, rfl⟩)
              go_round
              case rel => exact ⟨j - 1, by rw [show ((j - 1 : Nat) : Int) = (j : Int) - 1 by omega], by omega, by omega, HF⟩
              case measure => simp [intOf]; omega
            · rw [hb2] at cB
              have HF := hide (show s.extract k j = ⟨(trimL s.data.toList).toArray⟩ by rw [Lib.extract_eq, ← hrel2.out, ht, trimR_other _ _ hb2])
              clear ht hb2
              go_wp2_with (go_at_call 6; refine (cB.out _).mono ?_; rintro e w1 ⟨rfl, rfl⟩)
              go_ret
              exact ⟨ret_bs HF.out, rfl⟩
          · have hjk : j = k := by omega
            subst hjk
            have HF := hide (show ByteArray.empty = ⟨(trimL s.data.toList).toArray⟩ by
              have h0 := hrel2.out
              rw [Nat.sub_self, List.take_zero] at h0
              rw [← h0]; rfl)
            go_wp2
            go_ret
            exact ⟨ret_bs HF.out, rfl⟩
    · have HD := hide (show s.data.toList.drop k = s.data.toList.dropWhile isBlank by rw [← hrel.out, List.drop_eq_nil_of_le (by rw [size_list]; omega)]; rfl)
      go_wp2
      go_loop [4] (fun i => ∃ j : Nat, i = .int .i64 (j : Int) ∧ k ≤ j ∧ j ≤ s.size ∧ Hid (trimR ((s.data.toList.drop k).take (j - k)) = trimL s.data.toList)) (fun i => (intOf i).toNat)
      case atStart => exact ⟨s.size, rfl, hk, Nat.le_refl _, by show _ = _; rw [List.take_of_length_le (by rw [List.length_drop, size_list]; exact Nat.le_refl _), HD.out, trimR_drop]⟩
      case round =>
        obtain ⟨j, rfl, hkj, hjs, hrel2⟩ := hrel
        by_cases hj : k < j
        · have ht := take_at s k j hj hjs
          have hj1 : j - 1 < s.size := by omega
          obtain ⟨d, hd⟩ : ∃ d, s[j - 1]'hj1 = d := ⟨_, rfl⟩
          rw [hd] at ht
          have cB := hide (fun w => refBlank_any d w)
          have hsub : ((j : Int) - 1).toNat = j - 1 := by omega
          have hj2 : (k : Int) < (j : Int) := by omega
          have hj3 : (j : Int) ≤ (s.size : Int) := by omega
          rcases Bool.eq_false_or_eq_true (isBlank d) with hb2 | hb2
          · rw [hb2] at cB
            have HF := hide (show trimR ((s.data.toList.drop k).take (j - 1 - k)) = trimL s.data.toList by rw [← hrel2.out, ht, trimR_blank _ _ hb2])
            clear ht hb2
            go_wp2_with (go_at_call 6; refine (cB.out _).mono ?_; rintro e w1 ⟨rfl, rfl⟩)
            go_round
            case rel => exact ⟨j - 1, by rw [show ((j - 1 : Nat) : Int) = (j : Int) - 1 by omega], by omega, by omega, HF⟩
            case measure => simp [intOf]; omega
          · rw [hb2] at cB
            have HF := hide (show s.extract k j = ⟨(trimL s.data.toList).toArray⟩ by rw [Lib.extract_eq, ← hrel2.out, ht, trimR_other _ _ hb2])
            clear ht hb2
            go_wp2_with (go_at_call 6; refine (cB.out _).mono ?_; rintro e w1 ⟨rfl, rfl⟩)
            go_ret
            exact ⟨ret_bs HF.out, rfl⟩
        · have hjk : j = k := by omega
          subst hjk
          have HF := hide (show ByteArray.empty = ⟨(trimL s.data.toList).toArray⟩ by
            have h0 := hrel2.out
            rw [Nat.sub_self, List.take_zero] at h0
            rw [← h0]; rfl)
          go_wp2
          go_ret
          exact ⟨ret_bs HF.out, rfl⟩
end Go.Proofs.YtmgjhofecncgnaaDoor
