/-
  muslinref01.Parse: as the page says: the same answer.
-/
import Derived.Test.YtmgjhofecncgnaaParse
import Derived.Test.YtmgjhofecncgnaaNumBack
namespace Go.Proofs.Ytmgjhofecncgnaa
open Go.RowKit
set_option linter.unusedVariables false

set_option maxHeartbeats 400000 in
theorem digit_any (c : UInt8) (w : World) : Calls Try.prog 53 #[.int .u8 (c.toNat : Int)] w fun e w' => e = .returned (.bool (isDig c)) ∧ w = w' := by
  by_cases h : (48 : Int) ≤ (c.toNat : Int)
  · by_cases h2 : (c.toNat : Int) ≤ 57
    · rw [show isDig c = true by simp [isDig]; omega]
      go_enter Try.func53, Try.ntmps53
      go_wp2
      go_ret
      exact ⟨rfl, rfl⟩
    · rw [show isDig c = false by simp [isDig]; omega]
      go_enter Try.func53, Try.ntmps53
      go_wp2
      go_ret
      exact ⟨rfl, rfl⟩
  · rw [show isDig c = false by simp [isDig]; omega]
    go_enter Try.func53, Try.ntmps53
    go_wp2
    go_ret
    exact ⟨rfl, rfl⟩

theorem valFrom_lt (l : List UInt8) : l.all isDig = true → ∀ n, valFrom n l < (n + 1) * 10 ^ l.length := by
  induction l with
  | nil => intro _ n; rw [valFrom_nil]; simp
  | cons c r ih =>
    intro h n
    simp only [List.all_cons, Bool.and_eq_true] at h
    have hc : c.toNat ≤ 57 := by have := h.1; simp [isDig] at this; omega
    rw [valFrom_cons, List.length_cons, Nat.pow_succ]
    have h1 := ih h.2 (n * 10 + (c.toNat - 48))
    have h2 : (n * 10 + (c.toNat - 48) + 1) * 10 ^ r.length ≤ ((n + 1) * 10) * 10 ^ r.length := Nat.mul_le_mul_right _ (by omega)
    have h3 : ((n + 1) * 10) * 10 ^ r.length = (n + 1) * (10 ^ r.length * 10) := by rw [Nat.mul_assoc, Nat.mul_comm 10]
    omega
theorem valFrom_ge (l : List UInt8) : ∀ n, n * 10 ^ l.length ≤ valFrom n l := by
  induction l with
  | nil => intro n; rw [valFrom_nil]; simp
  | cons c r ih =>
    intro n
    rw [valFrom_cons, List.length_cons, Nat.pow_succ]
    have h1 := ih (n * 10 + (c.toNat - 48))
    have h2 : (n * 10) * 10 ^ r.length ≤ (n * 10 + (c.toNat - 48)) * 10 ^ r.length := Nat.mul_le_mul_right _ (by omega)
    have h3 : (n * 10) * 10 ^ r.length = n * (10 ^ r.length * 10) := by rw [Nat.mul_assoc, Nat.mul_comm 10]
    omega
theorem valFrom_long (l : List UInt8) (h : l.all isDig = true) (h0 : l.head? ≠ some 48) (hl : 20 ≤ l.length) : 9223372036854775808 < valFrom 0 l := by
  cases l with
  | nil => simp at hl
  | cons c r =>
    simp only [List.all_cons, Bool.and_eq_true] at h
    have hc : 49 ≤ c.toNat := by
      have h1 := h.1
      simp [isDig] at h1
      rcases Nat.lt_or_ge c.toNat 49 with h2 | h2
      · exfalso; apply h0
        have : c = 48 := UInt8.toNat_inj.1 (by have h48 : (48 : UInt8).toNat = 48 := rfl; omega)
        rw [this]; rfl
      · exact h2
    rw [valFrom_cons]
    have h1 := valFrom_ge r (0 * 10 + (c.toNat - 48))
    have h2 : 10 ^ 19 ≤ 10 ^ r.length := Nat.pow_le_pow_right (by omega) (by simp at hl; omega)
    have h3 : 1 * 10 ^ r.length ≤ (0 * 10 + (c.toNat - 48)) * 10 ^ r.length := Nat.mul_le_mul_right _ (by omega)
    omega

/-- What holds at the head of the first loop: digits till here. -/
def DigTo (t : ByteArray) (k : Nat) : Prop := (t.data.toList.take k).all isDig = true
theorem getByte {t : ByteArray} {k : Nat} (h : k < t.size) : t.data.toList[k]? = some (t[k]'h) := by
  rw [List.getElem?_eq_getElem (by rw [size_list]; exact h)]; rfl
theorem DigTo.next {t : ByteArray} {k : Nat} (h : DigTo t k) (hk : k < t.size) (hd : isDig (t[k]'hk) = true) : DigTo t (k + 1) := by
  unfold DigTo at *
  rw [List.take_add_one, getByte hk, List.all_append, h]
  simp [hd]
theorem DigTo.not {t : ByteArray} {k : Nat} (hk : k < t.size) (hd : isDig (t[k]'hk) = false) : t.data.toList.all isDig ≠ true := by
  intro h
  have := List.all_eq_true.1 h _ (List.mem_of_getElem? (getByte hk))
  rw [hd] at this; cases this
theorem DigTo.end_ {t : ByteArray} {k : Nat} (h : DigTo t k) (hk : t.size ≤ k) : t.data.toList.all isDig = true := by
  unfold DigTo at h
  rwa [List.take_of_length_le (by rw [size_list]; exact hk)] at h

/-- The sign, and what stands behind it. -/
theorem refCut (s : ByteArray) : (∃ t : ByteArray, cutDash s.data.toList = (t.data.toList, true) ∧ t.size ≤ s.size ∧ (0 : Int) < (s.size : Int) ∧ (∀ h : 0 < s.size, ((s[0]'h).toNat : Int) = 45) ∧ s.extract 1 s.size = t) ∨
    (cutDash s.data.toList = (s.data.toList, false) ∧ (¬ (0 : Int) < (s.size : Int) ∨ ((0 : Int) < (s.size : Int) ∧ ∀ h : 0 < s.size, ((s[0]'h).toNat : Int) ≠ 45))) := by
  cases hl : s.data.toList with
  | nil =>
    right
    refine ⟨rfl, .inl ?_⟩
    have := size_list s; rw [hl] at this; simp at this; omega
  | cons c r =>
    have hsz : s.size = r.length + 1 := by rw [← size_list, hl]; rfl
    have h0 : ∀ h : 0 < s.size, s[0]'h = c := by
      intro h
      have := getByte h
      rw [hl] at this
      simpa using this.symm
    by_cases hc : c = 45
    · subst hc
      left
      refine ⟨⟨r.toArray⟩, rfl, by rw [mk_size]; omega, by omega, fun h => by rw [h0 h]; rfl, ?_⟩
      rw [Lib.extract_eq, hl]
      simp
      rw [List.take_of_length_le (by omega)]
    · right
      refine ⟨cutDash_no _ (by simpa using hc), .inr ⟨by omega, fun h => ?_⟩⟩
      rw [h0 h]
      intro e
      apply hc
      apply UInt8.toNat_inj.1
      have h45 : (45 : UInt8).toNat = 45 := rfl
      omega

/-- What holds at the head of the second loop. -/
theorem parseRel_small {t : ByteArray} {k n : Nat} (h : ParseRel t k n) (hall : t.data.toList.all isDig = true) (hk : k ≤ 18) : n < 1000000000000000000 := by
  unfold ParseRel at h
  have h1 : (t.data.toList.take k).all isDig = true := List.all_eq_true.2 fun c hc => List.all_eq_true.1 hall c (List.mem_of_mem_take hc)
  have h2 := valFrom_lt _ h1 0
  rw [← h] at h2
  have h3 : 10 ^ (t.data.toList.take k).length ≤ 10 ^ 18 := Nat.pow_le_pow_right (by omega) (by rw [List.length_take]; omega)
  omega

theorem conv_back64 (n : Nat) (h : n ≤ 9223372036854775808) : ∃ X : Int, IntKind.u64.wrap (-(n : Int)) = X ∧ ∀ W, (convert 74 3 (.int .u64 X)).run Try.prog W = .ok (.int .i64 (-(n : Int))) W := by
  refine ⟨_, rfl, fun W => ?_⟩
  have e : IntKind.i64.wrap (IntKind.u64.wrap (-(n : Int))) = -(n : Int) := by
    rw [IntKind.wrap_i64]
    simp [IntKind.wrap, IntKind.bits, IntKind.signed]; omega
  go_simp

set_option maxHeartbeats 2000000 in
set_option maxRecDepth 100000 in
theorem refParse_below (s t : ByteArray) (w : World) (hs : t.size ≤ 9223372036854775807) (g0 : (0 : Int) < (s.size : Int)) (g1 : ∀ h : 0 < s.size, ((s[0]'h).toNat : Int) = 45) (g2 : s.extract 1 s.size = t) :
    Calls Try.prog 23 #[.string s] w fun e w' => e = .returned (.tuple #[.int .i64 (pParseT t.data.toList true).1, .int .i64 (pParseT t.data.toList true).2]) ∧ w = w' := by
  have g3 : (((s[0]'(by omega)).toNat : Int) == 45) = true := by rw [g1]; rfl
  clear g1
  by_cases h1 : t.data.toList = []
  · have h1' : t.toList = [] := by rw [ByteArray.toList_eq]; exact h1
    have HF := hide (show pParseT t.data.toList true = (0, 8) by unfold pParseT; rw [if_pos h1])
    clear h1
    go_enter Try.func23, Try.ntmps23
    go_wp2
    go_ret2
    exact ⟨ret_two HF.out.symm, rfl⟩
  · have h1' : t.toList.isEmpty = false := by rw [ByteArray.toList_eq]; simpa using h1
    have H1 := hide h1
    have hsz : 1 ≤ t.size := by
      have := List.length_pos_iff.2 h1
      rw [size_list] at this; exact this
    have hh : t.data.toList.head? = some (t[0]'hsz) := by rw [List.head?_eq_getElem?]; exact getByte hsz
    have HH := hide hh
    clear h1 hh
    go_enter Try.func23, Try.ntmps23
    go_wp2
    go_loop [6] (fun i => ∃ k : Nat, i = .int .i64 (k : Int) ∧ k ≤ t.size ∧ Hid (DigTo t k)) (fun i => t.size - (intOf i).toNat)
    case atStart => exact ⟨0, rfl, Nat.zero_le _, rfl⟩
    case round =>
      obtain ⟨k, rfl, hk, hrel⟩ := hrel
      by_cases hlt : k < t.size
      · rcases Bool.eq_false_or_eq_true (isDig (t[k]'hlt)) with hd | hd
        · have HN : Hid (DigTo t (k + 1)) := hrel.out.next hlt hd
          go_wp2_with (go_at_call 53; refine (digit_any _ _).mono ?_; rintro e w1 ⟨rfl, rfl⟩)
          go_round
          case rel => exact ⟨k + 1, by go_num, by omega, HN⟩
          case measure => simp [intOf]; omega
        · have HF := hide (show pParseT t.data.toList true = (0, 33) by unfold pParseT; rw [if_neg H1.out, if_pos (by simpa using DigTo.not hlt hd)])
          go_wp2_with (go_at_call 53; refine (digit_any _ _).mono ?_; rintro e w1 ⟨rfl, rfl⟩)
          go_ret2
          exact ⟨ret_two HF.out.symm, rfl⟩
      · have HA := hide (hrel.out.end_ (by omega))
        clear hrel
        by_cases hz : t.data.toList.head? = some 48 ∧ (true = true ∨ 1 < t.data.toList.length)
        · have HF := hide (show pParseT t.data.toList true = (0, 33) by unfold pParseT; rw [if_neg H1.out, if_neg (by simp [HA.out]), if_pos hz])
          have h5 : (((t[0]'hsz).toNat : Int) == 48) = true := by
            have := hz.1; rw [HH.out] at this
            rw [Option.some.inj this]; rfl
          skip
          clear hz
          go_wp2
          go_ret2
          exact ⟨ret_two HF.out.symm, rfl⟩
        · have HP := hide (show pParseT t.data.toList true = pVal true t.data.toList by unfold pParseT pVal; rw [if_neg H1.out, if_neg (by simp [HA.out]), if_neg hz])
          have hcase : ((((t[0]'hsz).toNat : Int) == 48) = false ∨ ((((t[0]'hsz).toNat : Int) == 48) = true ∧ true = false ∧ ¬ (1 : Int) < (t.size : Int))) := by
            rcases Bool.eq_false_or_eq_true (((t[0]'hsz).toNat : Int) == 48) with h5 | h5
            · right
              have e' : t[0]'hsz = 48 := by
                apply UInt8.toNat_inj.1
                have := beq_iff_eq.1 h5
                have h48 : (48 : UInt8).toNat = 48 := rfl
                omega
              rw [HH.out, e', size_list] at hz
              simp at hz
            · exact .inl h5
          have HL : Hid (20 ≤ t.size → pVal true t.data.toList = (0, 4)) := fun hl => pVal_great _ _ (valFrom_long _ HA.out (by
            intro e
            apply hz
            exact ⟨e, .inr (by rw [size_list]; omega)⟩) (by rw [size_list]; exact hl))
          clear hz
          rcases hcase with h5 | ⟨h5, hbf, h6⟩
          · by_cases hl : (19 : Int) < (t.size : Int)
            · have HF := hide (HL.out (by omega))
              go_wp2
              go_ret2
              exact ⟨ret_two (HP.out.trans HF.out).symm, rfl⟩
            · go_wp2
              go_loop [7, 8] (fun v i => ∃ k n : Nat, i = .int .i64 (k : Int) ∧ v = .int .u64 (n : Int) ∧ k ≤ t.size ∧ ParseRel t k n) (fun _ i => t.size - (intOf i).toNat)
              case atStart => exact ⟨0, 0, rfl, rfl, Nat.zero_le _, rfl⟩
              case round =>
                obtain ⟨k, n, rfl, rfl, hk, hrel⟩ := hrel
                by_cases hlt2 : k < t.size
                · have hd : isDig (t[k]'hlt2) = true := List.all_eq_true.1 HA.out _ (List.mem_of_getElem? (getByte hlt2))
                  have hd1 : 48 ≤ ((t[k]'hlt2).toNat : Int) := by simp [isDig] at hd; omega
                  have hd2 : ((t[k]'hlt2).toNat : Int) ≤ 57 := by simp [isDig] at hd; omega
                  have hn : (n : Int) ≤ 1000000000000000000 := by have := parseRel_small hrel HA.out (by omega); omega
                  have HN := hide (hrel.next (getByte hlt2))
                  clear hd hrel
                  go_wp2
                  go_round
                  case rel => exact ⟨k + 1, n * 10 + ((t[k]'hlt2).toNat - 48), by go_num, by go_num, by omega, HN.out⟩
                  case measure => simp [intOf]; omega
                · have hv := hrel.end_ (by omega)
                  have hn' : (n : Int) ≤ 18446744073709551615 := by
                    have h1 := valFrom_lt _ HA.out 0
                    have h2 : 10 ^ t.data.toList.length ≤ 10 ^ 19 := Nat.pow_le_pow_right (by omega) (by rw [size_list]; omega)
                    omega
                  by_cases hm : (n : Int) ≤ 9223372036854775808
                  · obtain ⟨X, hX1, hX2⟩ := conv_back64 n (by omega)
                    have HV := hide (show pVal true t.data.toList = (-(n : Int), 0) by unfold pVal; rw [← hv, if_pos rfl, if_pos (by omega)])
                    have HV2 := hide hv; clear hv hrel
                    go_wp2
                    go_ret2
                    exact ⟨ret_two (HP.out.trans HV.out).symm, rfl⟩
                  · have HV := hide (show pVal true t.data.toList = (0, 4) by unfold pVal; rw [← hv, if_pos rfl, if_neg (by omega)])
                    have HV2 := hide hv; clear hv hrel
                    go_wp2
                    go_ret2
                    exact ⟨ret_two (HP.out.trans HV.out).symm, rfl⟩
          · cases hbf

set_option maxHeartbeats 2000000 in
set_option maxRecDepth 100000 in
theorem refParse_plain (t : ByteArray) (w : World) (hs : t.size ≤ 9223372036854775807) (g : ¬ (0 : Int) < (t.size : Int) ∨ ((0 : Int) < (t.size : Int) ∧ ∀ h : 0 < t.size, ((t[0]'h).toNat : Int) ≠ 45)) :
    Calls Try.prog 23 #[.string t] w fun e w' => e = .returned (.tuple #[.int .i64 (pParseT t.data.toList false).1, .int .i64 (pParseT t.data.toList false).2]) ∧ w = w' := by
  by_cases h1 : t.data.toList = []
  · have h1' : t.toList = [] := by rw [ByteArray.toList_eq]; exact h1
    have g0 : ¬ (0 : Int) < (t.size : Int) := by have := size_list t; rw [h1] at this; simp at this; omega
    clear g
    have HF := hide (show pParseT t.data.toList false = (0, 8) by unfold pParseT; rw [if_pos h1])
    clear h1
    go_enter Try.func23, Try.ntmps23
    go_wp2
    go_ret2
    exact ⟨ret_two HF.out.symm, rfl⟩
  · have h1' : t.toList.isEmpty = false := by rw [ByteArray.toList_eq]; simpa using h1
    have H1 := hide h1
    have hsz : 1 ≤ t.size := by
      have := List.length_pos_iff.2 h1
      rw [size_list] at this; exact this
    have hh : t.data.toList.head? = some (t[0]'hsz) := by rw [List.head?_eq_getElem?]; exact getByte hsz
    have HH := hide hh
    have g0 : (((t[0]'hsz).toNat : Int) == 45) = false := by rcases g with g | g; omega; simpa using g.2 hsz
    clear h1 hh g
    go_enter Try.func23, Try.ntmps23
    go_wp2
    go_loop [6] (fun i => ∃ k : Nat, i = .int .i64 (k : Int) ∧ k ≤ t.size ∧ Hid (DigTo t k)) (fun i => t.size - (intOf i).toNat)
    case atStart => exact ⟨0, rfl, Nat.zero_le _, rfl⟩
    case round =>
      obtain ⟨k, rfl, hk, hrel⟩ := hrel
      by_cases hlt : k < t.size
      · rcases Bool.eq_false_or_eq_true (isDig (t[k]'hlt)) with hd | hd
        · have HN : Hid (DigTo t (k + 1)) := hrel.out.next hlt hd
          go_wp2_with (go_at_call 53; refine (digit_any _ _).mono ?_; rintro e w1 ⟨rfl, rfl⟩)
          go_round
          case rel => exact ⟨k + 1, by go_num, by omega, HN⟩
          case measure => simp [intOf]; omega
        · have HF := hide (show pParseT t.data.toList false = (0, 33) by unfold pParseT; rw [if_neg H1.out, if_pos (by simpa using DigTo.not hlt hd)])
          go_wp2_with (go_at_call 53; refine (digit_any _ _).mono ?_; rintro e w1 ⟨rfl, rfl⟩)
          go_ret2
          exact ⟨ret_two HF.out.symm, rfl⟩
      · have HA := hide (hrel.out.end_ (by omega))
        clear hrel
        by_cases hz : t.data.toList.head? = some 48 ∧ (false = true ∨ 1 < t.data.toList.length)
        · have HF := hide (show pParseT t.data.toList false = (0, 33) by unfold pParseT; rw [if_neg H1.out, if_neg (by simp [HA.out]), if_pos hz])
          have h5 : (((t[0]'hsz).toNat : Int) == 48) = true := by
            have := hz.1; rw [HH.out] at this
            rw [Option.some.inj this]; rfl
          have hlen : (1 : Int) < (t.size : Int) := by have := hz.2; simp only [Bool.false_eq_true, false_or, size_list] at this; omega
          clear hz
          go_wp2
          go_ret2
          exact ⟨ret_two HF.out.symm, rfl⟩
        · have HP := hide (show pParseT t.data.toList false = pVal false t.data.toList by unfold pParseT pVal; rw [if_neg H1.out, if_neg (by simp [HA.out]), if_neg hz])
          have hcase : ((((t[0]'hsz).toNat : Int) == 48) = false ∨ ((((t[0]'hsz).toNat : Int) == 48) = true ∧ false = false ∧ ¬ (1 : Int) < (t.size : Int))) := by
            rcases Bool.eq_false_or_eq_true (((t[0]'hsz).toNat : Int) == 48) with h5 | h5
            · right
              have e' : t[0]'hsz = 48 := by
                apply UInt8.toNat_inj.1
                have := beq_iff_eq.1 h5
                have h48 : (48 : UInt8).toNat = 48 := rfl
                omega
              rw [HH.out, e', size_list] at hz
              simp at hz
              exact ⟨h5, by first | rfl | exact hz.1 | (cases hz), by omega⟩
            · exact .inl h5
          have HL : Hid (20 ≤ t.size → pVal false t.data.toList = (0, 4)) := fun hl => pVal_great _ _ (valFrom_long _ HA.out (by
            intro e
            apply hz
            exact ⟨e, .inr (by rw [size_list]; omega)⟩) (by rw [size_list]; exact hl))
          clear hz
          rcases hcase with h5 | ⟨h5, _, h6⟩
          · by_cases hl : (19 : Int) < (t.size : Int)
            · have HF := hide (HL.out (by omega))
              go_wp2
              go_ret2
              exact ⟨ret_two (HP.out.trans HF.out).symm, rfl⟩
            · go_wp2
              go_loop [7, 8] (fun v i => ∃ k n : Nat, i = .int .i64 (k : Int) ∧ v = .int .u64 (n : Int) ∧ k ≤ t.size ∧ ParseRel t k n) (fun _ i => t.size - (intOf i).toNat)
              case atStart => exact ⟨0, 0, rfl, rfl, Nat.zero_le _, rfl⟩
              case round =>
                obtain ⟨k, n, rfl, rfl, hk, hrel⟩ := hrel
                by_cases hlt2 : k < t.size
                · have hd : isDig (t[k]'hlt2) = true := List.all_eq_true.1 HA.out _ (List.mem_of_getElem? (getByte hlt2))
                  have hd1 : 48 ≤ ((t[k]'hlt2).toNat : Int) := by simp [isDig] at hd; omega
                  have hd2 : ((t[k]'hlt2).toNat : Int) ≤ 57 := by simp [isDig] at hd; omega
                  have hn : (n : Int) ≤ 1000000000000000000 := by have := parseRel_small hrel HA.out (by omega); omega
                  have HN := hide (hrel.next (getByte hlt2))
                  clear hd hrel
                  go_wp2
                  go_round
                  case rel => exact ⟨k + 1, n * 10 + ((t[k]'hlt2).toNat - 48), by go_num, by go_num, by omega, HN.out⟩
                  case measure => simp [intOf]; omega
                · have hv := hrel.end_ (by omega)
                  have hn' : (n : Int) ≤ 18446744073709551615 := by
                    have h1 := valFrom_lt _ HA.out 0
                    have h2 : 10 ^ t.data.toList.length ≤ 10 ^ 19 := Nat.pow_le_pow_right (by omega) (by rw [size_list]; omega)
                    omega
                  by_cases hm : (9223372036854775808 : Int) ≤ n
                  · have HV := hide (show pVal false t.data.toList = (0, 4) by unfold pVal; rw [← hv, if_neg (by simp), if_neg (by omega)])
                    have HV2 := hide hv; clear hv hrel
                    go_wp2
                    go_ret2
                    exact ⟨ret_two (HP.out.trans HV.out).symm, rfl⟩
                  · have HV := hide (show pVal false t.data.toList = ((n : Int), 0) by unfold pVal; rw [← hv, if_neg (by simp), if_pos (by omega)])
                    have HV2 := hide hv; clear hv hrel
                    go_wp2
                    go_ret2
                    exact ⟨ret_two (HP.out.trans HV.out).symm, rfl⟩
          · by_cases hl : (19 : Int) < (t.size : Int)
            · have HF := hide (HL.out (by omega))
              go_wp2
              go_ret2
              exact ⟨ret_two (HP.out.trans HF.out).symm, rfl⟩
            · go_wp2
              go_loop [7, 8] (fun v i => ∃ k n : Nat, i = .int .i64 (k : Int) ∧ v = .int .u64 (n : Int) ∧ k ≤ t.size ∧ ParseRel t k n) (fun _ i => t.size - (intOf i).toNat)
              case atStart => exact ⟨0, 0, rfl, rfl, Nat.zero_le _, rfl⟩
              case round =>
                obtain ⟨k, n, rfl, rfl, hk, hrel⟩ := hrel
                by_cases hlt2 : k < t.size
                · have hd : isDig (t[k]'hlt2) = true := List.all_eq_true.1 HA.out _ (List.mem_of_getElem? (getByte hlt2))
                  have hd1 : 48 ≤ ((t[k]'hlt2).toNat : Int) := by simp [isDig] at hd; omega
                  have hd2 : ((t[k]'hlt2).toNat : Int) ≤ 57 := by simp [isDig] at hd; omega
                  have hn : (n : Int) ≤ 1000000000000000000 := by have := parseRel_small hrel HA.out (by omega); omega
                  have HN := hide (hrel.next (getByte hlt2))
                  clear hd hrel
                  go_wp2
                  go_round
                  case rel => exact ⟨k + 1, n * 10 + ((t[k]'hlt2).toNat - 48), by go_num, by go_num, by omega, HN.out⟩
                  case measure => simp [intOf]; omega
                · have hv := hrel.end_ (by omega)
                  have hn' : (n : Int) ≤ 18446744073709551615 := by
                    have h1 := valFrom_lt _ HA.out 0
                    have h2 : 10 ^ t.data.toList.length ≤ 10 ^ 19 := Nat.pow_le_pow_right (by omega) (by rw [size_list]; omega)
                    omega
                  by_cases hm : (9223372036854775808 : Int) ≤ n
                  · have HV := hide (show pVal false t.data.toList = (0, 4) by unfold pVal; rw [← hv, if_neg (by simp), if_neg (by omega)])
                    have HV2 := hide hv; clear hv hrel
                    go_wp2
                    go_ret2
                    exact ⟨ret_two (HP.out.trans HV.out).symm, rfl⟩
                  · have HV := hide (show pVal false t.data.toList = ((n : Int), 0) by unfold pVal; rw [← hv, if_neg (by simp), if_pos (by omega)])
                    have HV2 := hide hv; clear hv hrel
                    go_wp2
                    go_ret2
                    exact ⟨ret_two (HP.out.trans HV.out).symm, rfl⟩


theorem refParse_any (s : ByteArray) (w : World) (hs : s.size ≤ 9223372036854775807) :
    Calls Try.prog 23 #[.string s] w fun e w' => e = .returned (.tuple #[.int .i64 (pParse s.data.toList).1, .int .i64 (pParse s.data.toList).2]) ∧ w = w' := by
  rcases refCut s with ⟨t, h1, h2, h3, h4, h5⟩ | ⟨h1, h2⟩
  · rw [show pParse s.data.toList = pParseT t.data.toList true by unfold pParse; rw [h1]]
    exact refParse_below s t w (by omega) h3 h4 h5
  · rw [show pParse s.data.toList = pParseT s.data.toList false by unfold pParse; rw [h1]]
    exact refParse_plain s w hs h2
end Go.Proofs.Ytmgjhofecncgnaa
