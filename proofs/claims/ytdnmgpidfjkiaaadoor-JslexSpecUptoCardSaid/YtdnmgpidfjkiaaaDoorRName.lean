/-
  muslinref01.Name.
-/
import Derived.Test.YtdnmgpidfjkiaaaDoorRefChr
import Derived.Test.YtdnmgpidfjkiaaaDoorM2
import Derived.OwnWalk
import Derived.Deep.OwnRows
namespace Go.Proofs.YtdnmgpidfjkiaaaDoor
open Go.RowKit
set_option linter.unusedVariables false
set_option linter.unusedSimpArgs false

theorem at_dataN (t : ByteArray) (k : Nat) (h : k < t.size) : t.data.toList[k]? = some (t[k]'h) := by
  rw [List.getElem?_eq_getElem (by rw [size_list]; exact h)]; rfl
def badAtN (i : Nat) (c : UInt8) : Bool := !isLetter c && (!(c.toNat == 95) && (i == 0 || !isDig c))
theorem notName_ofN (c : UInt8) : notName c = (!isLetter c && (!(c.toNat == 95) && !isDig c)) := by
  unfold notName; cases isLetter c <;> cases (c.toNat == 95) <;> cases isDig c <;> rfl
theorem digit_apartN (c : UInt8) : (isDig c && (isLetter c || (c.toNat == 95))) = false := by
  exact beq_iff_eq.1 (allBytes (fun c => (isDig c && (isLetter c || (c.toNat == 95))) == false) (by decide +kernel) c)
theorem isName_badN {l : List UInt8} {k : Nat} {c : UInt8} (hc : l[k]? = some c) (hb : badAtN k c = true) : isName l = false := by
  cases l with
  | nil => rfl
  | cons c0 r =>
    rw [isName_cons]
    cases k with
    | zero =>
      simp at hc
      subst hc
      cases hd : isDig c0
      · have : notName c0 = true := by
          rw [notName_ofN]; unfold badAtN at hb; rw [hd] at *; simpa using hb
        simp [this]
      · simp
    | succ k =>
      have h2 : notName c = true := by
        rw [notName_ofN]; unfold badAtN at hb; simpa using hb
      have h3 : (c0 :: r).any notName = true := List.any_eq_true.2 ⟨c, List.mem_of_getElem? hc, h2⟩
      rw [h3]; simp
theorem isName_goodN {l : List UInt8} (h : ∀ (j : Nat) (c : UInt8), l[j]? = some c → badAtN j c = false) : isName l = (decide (1 ≤ l.length) && decide (l.length ≤ 32)) := by
  cases l with
  | nil => rfl
  | cons c0 r =>
    have h0 := h 0 c0 rfl
    have ha := digit_apartN c0
    have hd : isDig c0 = false := by
      unfold badAtN at h0
      cases hx : isDig c0 <;> cases hy : isLetter c0 <;> cases hz : (c0.toNat == 95) <;> simp_all
    have hn : (c0 :: r).any notName = false := by
      rw [List.any_eq_false]
      intro x hx
      obtain ⟨i, hi, rfl⟩ := List.getElem_of_mem hx
      have h1 := h i _ (List.getElem?_eq_getElem hi)
      unfold badAtN at h1
      rw [notName_ofN]
      cases i with
      | zero => simp_all
      | succ i => simpa using h1
    rw [isName_cons, hd, hn]
    simp
    omega

set_option maxHeartbeats 2000000 in
set_option maxRecDepth 100000 in
theorem rName_any (s : ByteArray) (w : World) (hs : s.size ≤ 140737488351232) :
    Calls Tryd.prog 102 #[.string s] w fun e w' => e = .returned (.bool (isName s.data.toList)) ∧ w = w' := by
  go_enter Tryd.func102, Tryd.ntmps102
  go_wp2
  go_loop [3] (fun i => ∃ k : Nat, i = .int .i64 (k : Int) ∧ k ≤ s.size ∧ Hid (∀ (j : Nat) (c : UInt8), j < k → s.data.toList[j]? = some c → badAtN j c = false)) (fun i => s.size - (intOf i).toNat)
  case atStart => exact ⟨0, rfl, Nat.zero_le _, fun j c hj _ => by omega⟩
  case round =>
    obtain ⟨k, rfl, hk, hrel⟩ := hrel
    by_cases hlt : k < s.size
    · have hdat := at_dataN s k hlt
      obtain ⟨c, hc⟩ : ∃ c, s[k]'hlt = c := ⟨_, rfl⟩
      rw [hc] at hdat
      have hnext : badAtN k c = false → Hid (∀ (j : Nat) (c : UInt8), j < k + 1 → s.data.toList[j]? = some c → badAtN j c = false) := fun hb j d hj hd => by
        rcases Nat.lt_or_ge j k with h1 | h1
        · exact hrel.out j d h1 hd
        · have : j = k := by omega
          subst this
          rw [hdat] at hd
          cases hd
          exact hb
      have HB := hide (fun hb : badAtN k c = true => isName_badN hdat hb)
      have cL := hide (fun w => refLet_any c w)
      have cD := hide (fun w => refDig_any c w)
      have e95 : (c.toNat == 95) = ((c.toNat : Int) == 95) := by
        by_cases h : c.toNat = 95
        · simp [h]
        · rw [beq_eq_false_iff_ne.2 h, beq_eq_false_iff_ne.2 (by omega)]
      cases hL : isLetter c
      · rw [hL] at cL
        rcases Bool.eq_false_or_eq_true ((c.toNat : Int) == 95) with e | e
        · have HF := hide (hnext (by unfold badAtN; rw [hL, e95, e]; simp))
          have e2 : ((c.toNat : Int) != 95) = false := by rw [bne, e]; rfl
          clear hnext hdat HB e95 hL
          go_wp2_with (first | (go_at_call 81; refine (cL.out _).mono ?_; rintro e w1 ⟨rfl, rfl⟩) | (go_at_call 82; refine (cD.out _).mono ?_; rintro e w1 ⟨rfl, rfl⟩))
          go_round
          case rel => exact ⟨k + 1, by go_num, by omega, HF.out⟩
          case measure => simp [intOf]; omega
        · have e2 : ((c.toNat : Int) != 95) = true := by rw [bne, e]; rfl
          by_cases h0 : k = 0
          · have HF := hide (HB.out (by unfold badAtN; rw [hL, e95, e, h0]; rfl))
            subst h0
            clear hnext hdat HB e95 hL
            go_wp2_with (first | (go_at_call 81; refine (cL.out _).mono ?_; rintro e w1 ⟨rfl, rfl⟩) | (go_at_call 82; refine (cD.out _).mono ?_; rintro e w1 ⟨rfl, rfl⟩))
            go_ret
            exact ⟨ret_bool HF.out.symm, rfl⟩
          · have h0' : ((k : Int) == 0) = false := by simpa using h0
            cases hD : isDig c
            · rw [hD] at cD
              have HF := hide (HB.out (by unfold badAtN; rw [hL, e95, e, hD]; simp))
              clear hnext hdat HB e95 hL hD h0
              go_wp2_with (first | (go_at_call 81; refine (cL.out _).mono ?_; rintro e w1 ⟨rfl, rfl⟩) | (go_at_call 82; refine (cD.out _).mono ?_; rintro e w1 ⟨rfl, rfl⟩))
              go_ret
              exact ⟨ret_bool HF.out.symm, rfl⟩
            · rw [hD] at cD
              have HF := hide (hnext (by unfold badAtN; rw [hD]; simp [h0]))
              clear hnext hdat HB e95 hL hD h0
              go_wp2_with (first | (go_at_call 81; refine (cL.out _).mono ?_; rintro e w1 ⟨rfl, rfl⟩) | (go_at_call 82; refine (cD.out _).mono ?_; rintro e w1 ⟨rfl, rfl⟩))
              go_round
              case rel => exact ⟨k + 1, by go_num, by omega, HF.out⟩
              case measure => simp [intOf]; omega
      · rw [hL] at cL
        have HF := hide (hnext (by unfold badAtN; rw [hL]; simp))
        clear hnext hdat HB e95 hL
        go_wp2_with (first | (go_at_call 81; refine (cL.out _).mono ?_; rintro e w1 ⟨rfl, rfl⟩) | (go_at_call 82; refine (cD.out _).mono ?_; rintro e w1 ⟨rfl, rfl⟩))
        go_round
        case rel => exact ⟨k + 1, by go_num, by omega, HF.out⟩
        case measure => simp [intOf]; omega
    · have HG := hide (show isName s.data.toList = (decide (1 ≤ s.size) && decide (s.size ≤ 32)) by
        rw [isName_goodN (fun j c hj => hrel.out j c (by have := (List.getElem?_eq_some_iff.1 hj).1; rw [size_list] at this; omega) hj), size_list])
      by_cases h1 : (1 : Int) ≤ (s.size : Int)
      · obtain ⟨b, hb⟩ : ∃ b, decide ((s.size : Int) ≤ 32) = b := ⟨_, rfl⟩
        have HF := hide (show b = isName s.data.toList by
          rw [HG.out, ← hb, show decide (1 ≤ s.size) = true by simp; omega]
          by_cases h : s.size ≤ 32
          · rw [show decide (s.size ≤ 32) = true by simpa using h, show decide ((s.size : Int) ≤ 32) = true by simp; omega]; rfl
          · rw [show decide (s.size ≤ 32) = false by simpa using h, show decide ((s.size : Int) ≤ 32) = false by simp; omega]; rfl)
        go_wp2
        go_ret
        exact ⟨ret_bool HF.out, rfl⟩
      · have h2 : decide ((1 : Int) ≤ (s.size : Int)) = false := by simpa using h1
        have h3 : (s.size : Int) < 1 := by omega
        have HF := hide (show false = isName s.data.toList by rw [HG.out, show decide (1 ≤ s.size) = false by rw [decide_eq_false_iff_not]; omega]; rfl)
        clear h1
        go_wp2
        go_ret
        exact ⟨ret_bool HF.out, rfl⟩
end Go.Proofs.YtdnmgpidfjkiaaaDoor
