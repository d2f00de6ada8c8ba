/-
  muslinref01 on octets: Letter, Digit, Name, Begins, Starts.
-/
import Derived.Test.YtmgjhofecncgnaaDoorRefOct2
namespace Go.Proofs.YtmgjhofecncgnaaDoor
open Go.RowKit
set_option linter.unusedVariables false
set_option linter.unusedSimpArgs false

set_option maxHeartbeats 1000000 in
theorem refDigitO_any (c : UInt8) (w : World) : Calls Tryd.prog 25 #[.int .u8 (c.toNat : Int)] w fun e w' => e = .returned (.bool (isDig c)) ∧ w = w' := by
  have hd : isDig c = (decide (48 ≤ (c.toNat : Int)) && decide ((c.toNat : Int) ≤ 57)) := by
    rw [show isDig c = (decide (48 ≤ c.toNat) && decide (c.toNat ≤ 57)) from rfl]
    by_cases h1 : 48 ≤ c.toNat <;> by_cases h2 : c.toNat ≤ 57 <;> simp [h1, h2] <;> omega
  by_cases h : (48 : Int) ≤ (c.toNat : Int)
  · obtain ⟨b, hb⟩ : ∃ b, decide ((c.toNat : Int) ≤ 57) = b := ⟨_, rfl⟩
    rw [hd, hb, show decide (48 ≤ (c.toNat : Int)) = true by simpa using h]
    clear hd
    go_enter Tryd.func25, Tryd.ntmps25
    go_wp2
    go_ret
    exact ⟨rfl, rfl⟩
  · have h2 : decide ((48 : Int) ≤ (c.toNat : Int)) = false := by simpa using h
    have h3 : (c.toNat : Int) < 48 := by omega
    rw [hd, h2]
    clear hd h
    go_enter Tryd.func25, Tryd.ntmps25
    go_wp2
    go_ret
    exact ⟨rfl, rfl⟩
set_option maxHeartbeats 1000000 in
theorem refLetter_any (c : UInt8) (w : World) : Calls Tryd.prog 8 #[.int .u8 (c.toNat : Int)] w fun e w' => e = .returned (.bool (isLetter c)) ∧ w = w' := by
  have hl : isLetter c = ((decide (97 ≤ (c.toNat : Int)) && decide ((c.toNat : Int) ≤ 122)) || (decide (65 ≤ (c.toNat : Int)) && decide ((c.toNat : Int) ≤ 90))) := by
    have := allBytes (fun c => isLetter c == ((decide (97 ≤ (c.toNat : Int)) && decide ((c.toNat : Int) ≤ 122)) || (decide (65 ≤ (c.toNat : Int)) && decide ((c.toNat : Int) ≤ 90)))) (by decide +kernel) c
    simpa using this
  generalize (c.toNat : Int) = x at hl ⊢
  by_cases h1 : 97 ≤ x
  · by_cases h2 : x ≤ 122
    · rw [show isLetter c = true by rw [hl]; simp [h1, h2]]
      clear hl
      go_enter Tryd.func8, Tryd.ntmps8
      go_wp2
      go_ret
      exact ⟨rfl, rfl⟩
    · have h3 : decide (x ≤ 122) = false := by simpa using h2
      have h4 : 65 ≤ x := by omega
      have h5 : decide (x ≤ 90) = false := by simp; omega
      rw [show isLetter c = false by rw [hl, h3, h5]; simp]
      have h6 : 122 < x := by omega
      have h7 : 90 < x := by omega
      clear hl h2
      go_enter Tryd.func8, Tryd.ntmps8
      go_wp2
      go_ret
      exact ⟨rfl, rfl⟩
  · have h2 : decide (97 ≤ x) = false := by simpa using h1
    have h3 : x < 97 := by omega
    by_cases h4 : 65 ≤ x
    · obtain ⟨b, hb⟩ : ∃ b, decide (x ≤ 90) = b := ⟨_, rfl⟩
      rw [show isLetter c = b by rw [hl, h2, hb]; simp [h4]]
      clear hl h1
      go_enter Tryd.func8, Tryd.ntmps8
      go_wp2
      go_ret
      exact ⟨rfl, rfl⟩
    · have h5 : decide (65 ≤ x) = false := by simpa using h4
      have h6 : x < 65 := by omega
      rw [show isLetter c = false by rw [hl, h2, h5]; simp]
      clear hl h1 h4
      go_enter Tryd.func8, Tryd.ntmps8
      go_wp2
      go_ret
      exact ⟨rfl, rfl⟩

def badAt (i : Nat) (c : UInt8) : Bool := !isLetter c && (!(c.toNat == 95) && (i == 0 || !isDig c))
theorem notName_of (c : UInt8) : notName c = (!isLetter c && (!(c.toNat == 95) && !isDig c)) := by
  unfold notName; cases isLetter c <;> cases (c.toNat == 95) <;> cases isDig c <;> rfl
theorem digit_apart (c : UInt8) : (isDig c && (isLetter c || (c.toNat == 95))) = false := by
  exact beq_iff_eq.1 (allBytes (fun c => (isDig c && (isLetter c || (c.toNat == 95))) == false) (by decide +kernel) c)
theorem isName_bad {l : List UInt8} {k : Nat} {c : UInt8} (hc : l[k]? = some c) (hb : badAt k c = true) : isName l = false := by
  cases l with
  | nil => rfl
  | cons c0 r =>
    rw [isName_cons]
    cases k with
    | zero =>
      simp at hc
      subst hc
      cases hd : isDig c0
      · have : notName c0 = true := by
          rw [notName_of]; unfold badAt at hb; rw [hd] at *; simpa using hb
        simp [this]
      · simp
    | succ k =>
      have h2 : notName c = true := by
        rw [notName_of]; unfold badAt at hb; simpa using hb
      have h3 : (c0 :: r).any notName = true := List.any_eq_true.2 ⟨c, List.mem_of_getElem? hc, h2⟩
      rw [h3]; simp
theorem isName_good {l : List UInt8} (h : ∀ (j : Nat) (c : UInt8), l[j]? = some c → badAt j c = false) : isName l = (decide (1 ≤ l.length) && decide (l.length ≤ 32)) := by
  cases l with
  | nil => rfl
  | cons c0 r =>
    have h0 := h 0 c0 rfl
    have ha := digit_apart c0
    have hd : isDig c0 = false := by
      unfold badAt at h0
      cases hx : isDig c0 <;> cases hy : isLetter c0 <;> cases hz : (c0.toNat == 95) <;> simp_all
    have hn : (c0 :: r).any notName = false := by
      rw [List.any_eq_false]
      intro x hx
      obtain ⟨i, hi, rfl⟩ := List.getElem_of_mem hx
      have h1 := h i _ (List.getElem?_eq_getElem hi)
      unfold badAt at h1
      rw [notName_of]
      cases i with
      | zero => simp_all
      | succ i => simpa using h1
    rw [isName_cons, hd, hn]
    simp
    omega

set_option maxHeartbeats 2000000 in
set_option maxRecDepth 100000 in
theorem refName_any (s : ByteArray) (w : World) (hs : s.size ≤ 140737488351232) :
    Calls Tryd.prog 14 #[.string s] w fun e w' => e = .returned (.bool (isName s.data.toList)) ∧ w = w' := by
  go_enter Tryd.func14, Tryd.ntmps14
  go_wp2
  go_loop [3] (fun i => ∃ k : Nat, i = .int .i64 (k : Int) ∧ k ≤ s.size ∧ Hid (∀ (j : Nat) (c : UInt8), j < k → s.data.toList[j]? = some c → badAt j c = false)) (fun i => s.size - (intOf i).toNat)
  case atStart => exact ⟨0, rfl, Nat.zero_le _, fun j c hj _ => by omega⟩
  case round =>
    obtain ⟨k, rfl, hk, hrel⟩ := hrel
    by_cases hlt : k < s.size
    · have hdat := at_data s k hlt
      obtain ⟨c, hc⟩ : ∃ c, s[k]'hlt = c := ⟨_, rfl⟩
      rw [hc] at hdat
      have hnext : badAt k c = false → Hid (∀ (j : Nat) (c : UInt8), j < k + 1 → s.data.toList[j]? = some c → badAt j c = false) := fun hb j d hj hd => by
        rcases Nat.lt_or_ge j k with h1 | h1
        · exact hrel.out j d h1 hd
        · have : j = k := by omega
          subst this
          rw [hdat] at hd
          cases hd
          exact hb
      have HB := hide (fun hb : badAt k c = true => isName_bad hdat hb)
      have cL := hide (fun w => refLetter_any c w)
      have cD := hide (fun w => refDigitO_any c w)
      have e95 : (c.toNat == 95) = ((c.toNat : Int) == 95) := by
        by_cases h : c.toNat = 95
        · simp [h]
        · rw [beq_eq_false_iff_ne.2 h, beq_eq_false_iff_ne.2 (by omega)]
      cases hL : isLetter c
      · rw [hL] at cL
        rcases Bool.eq_false_or_eq_true ((c.toNat : Int) == 95) with e | e
        · have HF := hide (hnext (by unfold badAt; rw [hL, e95, e]; simp))
          have e2 : ((c.toNat : Int) != 95) = false := by rw [bne, e]; rfl
          clear hnext hdat HB e95 hL
          go_wp2_with (first | (go_at_call 8; refine (cL.out _).mono ?_; rintro e w1 ⟨rfl, rfl⟩) | (go_at_call 25; refine (cD.out _).mono ?_; rintro e w1 ⟨rfl, rfl⟩))
          go_round
          case rel => exact ⟨k + 1, by go_num, by omega, HF.out⟩
          case measure => simp [intOf]; omega
        · have e2 : ((c.toNat : Int) != 95) = true := by rw [bne, e]; rfl
          by_cases h0 : k = 0
          · have HF := hide (HB.out (by unfold badAt; rw [hL, e95, e, h0]; rfl))
            subst h0
            clear hnext hdat HB e95 hL
            go_wp2_with (first | (go_at_call 8; refine (cL.out _).mono ?_; rintro e w1 ⟨rfl, rfl⟩) | (go_at_call 25; refine (cD.out _).mono ?_; rintro e w1 ⟨rfl, rfl⟩))
            go_ret
            exact ⟨ret_bool HF.out.symm, rfl⟩
          · have h0' : ((k : Int) == 0) = false := by simpa using h0
            cases hD : isDig c
            · rw [hD] at cD
              have HF := hide (HB.out (by unfold badAt; rw [hL, e95, e, hD]; simp))
              clear hnext hdat HB e95 hL hD h0
              go_wp2_with (first | (go_at_call 8; refine (cL.out _).mono ?_; rintro e w1 ⟨rfl, rfl⟩) | (go_at_call 25; refine (cD.out _).mono ?_; rintro e w1 ⟨rfl, rfl⟩))
              go_ret
              exact ⟨ret_bool HF.out.symm, rfl⟩
            · rw [hD] at cD
              have HF := hide (hnext (by unfold badAt; rw [hD]; simp [h0]))
              clear hnext hdat HB e95 hL hD h0
              go_wp2_with (first | (go_at_call 8; refine (cL.out _).mono ?_; rintro e w1 ⟨rfl, rfl⟩) | (go_at_call 25; refine (cD.out _).mono ?_; rintro e w1 ⟨rfl, rfl⟩))
              go_round
              case rel => exact ⟨k + 1, by go_num, by omega, HF.out⟩
              case measure => simp [intOf]; omega
      · rw [hL] at cL
        have HF := hide (hnext (by unfold badAt; rw [hL]; simp))
        clear hnext hdat HB e95 hL
        go_wp2_with (first | (go_at_call 8; refine (cL.out _).mono ?_; rintro e w1 ⟨rfl, rfl⟩) | (go_at_call 25; refine (cD.out _).mono ?_; rintro e w1 ⟨rfl, rfl⟩))
        go_round
        case rel => exact ⟨k + 1, by go_num, by omega, HF.out⟩
        case measure => simp [intOf]; omega
    · have HG := hide (show isName s.data.toList = (decide (1 ≤ s.size) && decide (s.size ≤ 32)) by
        rw [isName_good (fun j c hj => hrel.out j c (by have := (List.getElem?_eq_some_iff.1 hj).1; rw [size_list] at this; omega) hj), size_list])
      by_cases h1 : (1 : Int) ≤ (s.size : Int)
      · obtain ⟨b, hb⟩ : ∃ b, decide ((s.size : Int) ≤ 32) = b := ⟨_, rfl⟩
        have HF := hide (show b = isName s.data.toList by
          rw [HG.out, ← hb, show decide (1 ≤ s.size) = true by simp; omega]
          by_cases h : s.size ≤ 32
          · rw [show decide (s.size ≤ 32) = true by simpa using h, show decide ((s.size : Int) ≤ 32) = true by simp; omega]; rfl
          · rw [show decide (s.size ≤ 32) = false by simpa using h, show decide ((s.size : Int) ≤ 32) = false by simp; omega]; rfl)
        go_wp2
        go_ret
        exact ⟨ret_bool HF.out, rfl⟩
      · have h2 : decide ((1 : Int) ≤ (s.size : Int)) = false := by simpa using h1
        have h3 : (s.size : Int) < 1 := by omega
        have HF := hide (show false = isName s.data.toList by rw [HG.out, show decide (1 ≤ s.size) = false by rw [decide_eq_false_iff_not]; omega]; rfl)
        clear h1
        go_wp2
        go_ret
        exact ⟨ret_bool HF.out, rfl⟩

theorem refBeginsO_any (p s : ByteArray) (w : World) :
    Calls Tryd.prog 26 #[.string p, .string s] w fun e w' => e = .returned (.bool (decide (p.size ≤ s.size) && ((s.extract 0 p.size).toList == p.toList))) ∧ w = w' := by
  by_cases h : p.size ≤ s.size
  · obtain ⟨b, hb⟩ : ∃ b, ((s.extract 0 p.size).toList == p.toList) = b := ⟨_, rfl⟩
    have HB := hide (show (decide (p.size ≤ s.size) && ((s.extract 0 p.size).toList == p.toList)) = b by rw [hb]; simp [h])
    rw [HB.out]
    go_enter Tryd.func26, Tryd.ntmps26
    go_wp2
    go_ret
    exact ⟨rfl, rfl⟩
  · rw [show decide (p.size ≤ s.size) = false by simp; omega]
    go_enter Tryd.func26, Tryd.ntmps26
    go_wp2
    go_ret
    exact ⟨rfl, rfl⟩
theorem refStarts_any (s p : ByteArray) (w : World) (hs : s.size ≤ 140737488351232) (hp : p.size ≤ 140737488351232) :
    Calls Tryd.prog 16 #[.string s, .string p] w fun e w' => e = .returned (.bool (startsK s.data.toList p.data.toList)) ∧ Below w.heap.size w w' := by
  have c1 := hide (fun w => refLower_any p w hp)
  have c2 := hide (fun w => refLower_any s w hs)
  obtain ⟨x, hx⟩ : ∃ x : ByteArray, x = ⟨(p.data.toList.map smallB).toArray⟩ := ⟨_, rfl⟩
  obtain ⟨y, hy⟩ : ∃ y : ByteArray, y = ⟨(s.data.toList.map smallB).toArray⟩ := ⟨_, rfl⟩
  rw [← hx] at c1
  rw [← hy] at c2
  have hxd : x.data.toList = p.data.toList.map smallB := by rw [hx]
  have hyd : y.data.toList = s.data.toList.map smallB := by rw [hy]
  have hxs : x.size = p.data.toList.length := by rw [← size_list x, hxd, List.length_map]
  have hys : y.size = s.data.toList.length := by rw [← size_list y, hyd, List.length_map]
  have c3 := hide (fun w => refBeginsO_any x y w)
  have hk : (decide (x.size ≤ y.size) && ((y.extract 0 x.size).toList == x.toList)) = startsK s.data.toList p.data.toList := by
    unfold startsK
    rw [Lib.extract_toList, ByteArray.toList_eq, hxs, hys, hxd, hyd, List.drop_zero, Nat.sub_zero, List.map_take]
  rw [hk] at c3
  clear hx hy hxd hyd hxs hys hk
  go_enter Tryd.func16, Tryd.ntmps16
  go_wp2_with fail
  refine (c1.out _).mono ?_
  rintro e w1 ⟨rfl, hb1⟩
  go_wp2_with fail
  refine (c2.out _).mono ?_
  rintro e w2 ⟨rfl, hb2⟩
  go_wp2_with (go_at_call 26; refine (c3.out _).mono ?_; rintro e w3 ⟨rfl, rfl⟩)
  go_ret
  exact ⟨rfl, below_step hb1 hb2⟩
end Go.Proofs.YtmgjhofecncgnaaDoor
