/-
  number.Parse: a text's number.
-/
import Derived.Test.YtdnmgpidfjkiaaaDoorIdxFunc
import Derived.Test.YtdnmgpidfjkiaaaDoorBytes
import Derived.Test.YtdnmgpidfjkiaaaDoorM1
namespace Go.Proofs.YtdnmgpidfjkiaaaDoor
open Go.RowKit
set_option linter.unusedVariables false

/-- The test on characters: none that is no digit. -/
def notDig (r : Nat) : Bool := decide (r < 48) || decide (57 < r)
set_option maxHeartbeats 400000 in
theorem notDig_pays (w : World) : PredR Tryd.prog 133 #[] notDig w := by
  intro W x hb
  by_cases h : x < 48
  · have h1 : (x : Int) < 48 := by omega
    have e : notDig x = true := by simp [notDig, h]
    rw [e]
    go_enter Tryd.func133, Tryd.ntmps133
    go_wp2
    go_ret
    exact ⟨rfl, rfl⟩
  · have h1 : ¬ (x : Int) < 48 := by omega
    by_cases h2 : 57 < x
    · have h3 : 57 < (x : Int) := by omega
      have e : notDig x = true := by simp [notDig, h2]
      rw [e]
      go_enter Tryd.func133, Tryd.ntmps133
      go_wp2
      go_ret
      exact ⟨rfl, rfl⟩
    · have h3 : ¬ 57 < (x : Int) := by omega
      have e : notDig x = false := by simp [notDig]; omega
      rw [e]
      go_enter Tryd.func133, Tryd.ntmps133
      go_wp2
      go_ret
      exact ⟨rfl, rfl⟩

theorem allDig_of (s : ByteArray) : (idxR notDig s < 0) ↔ s.data.toList.all isDig = true := by
  unfold idxR
  rw [idxFrom_all notDig (by intro r hr; simp [notDig]; omega) s s.size 0 (by omega), List.all_eq_true]
  constructor
  · intro h c hc
    obtain ⟨i, hi, rfl⟩ := List.getElem_of_mem hc
    have hi' : i < s.size := by rw [← size_list]; exact hi
    have h1 := h i hi' (by omega)
    have e : s.data.toList[i] = s[i]'hi' := rfl
    rw [e]
    simp [notDig] at h1
    simp [isDig]; omega
  · intro h i hi _
    have h1 := h (s[i]'hi) (by have e : s.data.toList[i]'(by rw [size_list]; exact hi) = s[i]'hi := rfl; rw [← e]; exact List.getElem_mem _)
    simp [isDig] at h1
    simp [notDig]; omega

/-- strings.CutPrefix(s, "-"). -/
theorem cut_yes (s : ByteArray) (r : List UInt8) (w : World) (h : s.data.toList = 45 :: r) :
    Calls Tryd.prog 131 #[.string s, .string ⟨#[45]⟩] w fun e w' => e = .returned (.tuple #[.string ⟨r.toArray⟩, .bool true]) ∧ w = w' := by
  have h1 : 1 ≤ s.size := by rw [← size_list, h]; simp
  have h2 : ((s.extract 0 1).toList == [45]) = true := by rw [Lib.extract_toList, h]; rfl
  have h3 : s.extract 1 s.size = ⟨r.toArray⟩ := by
    rw [Lib.extract_eq, h]
    have : (45 :: r).length = s.size := by rw [← h, size_list]
    simp at this
    simp
    rw [List.take_of_length_le (by omega)]
  have HH := hide h; clear h
  go_enter Tryd.func131, Tryd.ntmps131
  go_wp2
  go_ret2
  exact ⟨rfl, rfl⟩

set_option maxHeartbeats 400000 in
theorem cut_no (s : ByteArray) (w : World) (h : s.data.toList.head? ≠ some 45) :
    Calls Tryd.prog 131 #[.string s, .string ⟨#[45]⟩] w fun e w' => e = .returned (.tuple #[.string s, .bool false]) ∧ w = w' := by
  by_cases h1 : 1 ≤ s.size
  · have h2 : ((s.extract 0 1).toList == [45]) = false := by
      rw [Lib.extract_toList]
      cases hl : s.data.toList with
      | nil => rfl
      | cons c r =>
        rw [hl] at h
        simp at h
        simpa using h
    have HH := hide h; clear h
    go_enter Tryd.func131, Tryd.ntmps131
    go_wp2
    go_ret2
    exact ⟨rfl, rfl⟩
  · have h1' : ¬ (1 : Int) ≤ (s.size : Int) := by omega
    have HH := hide h; clear h
    go_enter Tryd.func131, Tryd.ntmps131
    go_wp2
    go_ret2
    exact ⟨rfl, rfl⟩

/-- The text's rest and its sign, as octets. -/
structure CutDash (s t : ByteArray) (below : Bool) : Prop where
  is : cutDash s.data.toList = (t.data.toList, below)
  le : t.size ≤ s.size
theorem cutDash_ex (s : ByteArray) : ∃ t below, CutDash s t below ∧ ∀ w, Calls Tryd.prog 131 #[.string s, .string ⟨#[45]⟩] w fun e w' => e = .returned (.tuple #[.string t, .bool below]) ∧ w = w' := by
  cases hl : s.data.toList with
  | nil => exact ⟨s, false, ⟨by rw [hl]; rfl, Nat.le_refl _⟩, fun w => cut_no s w (by rw [hl]; simp)⟩
  | cons c r =>
    by_cases hc : c = 45
    · subst hc
      refine ⟨⟨r.toArray⟩, true, ⟨by rw [hl]; rfl, ?_⟩, fun w => cut_yes s r w hl⟩
      rw [mk_size, ← size_list s, hl]; simp
    · refine ⟨s, false, ⟨?_, Nat.le_refl _⟩, fun w => cut_no s w (by rw [hl]; simpa using hc)⟩
      rw [hl]
      unfold cutDash
      split
      · rename_i h; injection h with h1 h2; exact absurd h1 hc
      · rfl

/-- 'int(-n)'. -/
theorem conv_back (n : Nat) (h : n ≤ 9223372036854775808) : ∃ X : Int, IntKind.u64.wrap (-(n : Int)) = X ∧ ∀ W, (convert 92 3 (.int .u64 X)).run Tryd.prog W = .ok (.int .i64 (-(n : Int))) W := by
  refine ⟨_, rfl, fun W => ?_⟩
  have e : IntKind.i64.wrap (IntKind.u64.wrap (-(n : Int))) = -(n : Int) := by
    rw [IntKind.wrap_i64]
    simp [IntKind.wrap, IntKind.bits, IntKind.signed]; omega
  go_simp

/-- What the digits come to, of a text that may be one. -/
def pVal (below : Bool) (l : List UInt8) : Int × Int :=
  if below then (if valFrom 0 l ≤ 9223372036854775808 then (-(valFrom 0 l : Int), 0) else (0, 4))
  else (if valFrom 0 l < 9223372036854775808 then ((valFrom 0 l : Int), 0) else (0, 4))
theorem pVal_great (below : Bool) (l : List UInt8) (h : 9223372036854775808 < valFrom 0 l) : pVal below l = (0, 4) := by
  unfold pVal
  cases below <;> simp <;> omega

/-- What holds at the head of the loop. -/
def ParseRel (t : ByteArray) (k n : Nat) : Prop := n = valFrom 0 (t.data.toList.take k)
theorem ParseRel.next {t : ByteArray} {k n : Nat} (h : ParseRel t k n) {c : UInt8} (hc : t.data.toList[k]? = some c) : ParseRel t (k + 1) (n * 10 + (c.toNat - 48)) := by
  unfold ParseRel at h ⊢
  rw [List.take_add_one, hc, Option.toList_some, valFrom_append, ← h, valFrom_cons, valFrom_nil]
theorem ParseRel.le {t : ByteArray} {k n : Nat} (h : ParseRel t k n) : n ≤ valFrom 0 t.data.toList := by
  unfold ParseRel at h
  rw [h]
  have := valFrom_append 0 (t.data.toList.take k) (t.data.toList.drop k)
  rw [List.take_append_drop] at this
  rw [this]
  exact valFrom_le _ _
theorem ParseRel.end_ {t : ByteArray} {k n : Nat} (h : ParseRel t k n) (hk : t.size ≤ k) : n = valFrom 0 t.data.toList := by
  unfold ParseRel at h
  rw [h, List.take_of_length_le (by rw [size_list]; exact hk)]
theorem ret_two {a b : Int × Int} (h : a = b) : Ending.returned (.tuple #[.int .i64 a.1, .int .i64 a.2]) = .returned (.tuple #[.int .i64 b.1, .int .i64 b.2]) := by rw [h]

section
variable (s t : ByteArray) (below : Bool) (HC : Hid (∀ w, Calls Tryd.prog 131 #[.string s, .string ⟨#[45]⟩] w fun e w' => e = .returned (.tuple #[.string t, .bool below]) ∧ w = w'))
include HC

set_option maxHeartbeats 400000 in
theorem parse_empty (w : World) (h : t.data.toList = []) : Calls Tryd.prog 101 #[.string s] w fun e w' => e = .returned (.tuple #[.int .i64 0, .int .i64 8]) ∧ w = w' := by
  have h1 : t.toList = [] := by rw [ByteArray.toList_eq]; exact h
  have HH := hide h; clear h
  go_enter Tryd.func101, Tryd.ntmps101
  go_wp2_with (go_at_call 131; refine ((Hid.out HC) _).mono ?_; rintro e w1 ⟨rfl, rfl⟩)
  go_ret2
  exact ⟨rfl, rfl⟩

set_option maxHeartbeats 400000 in
theorem parse_bad (w : World) (h : t.data.toList ≠ []) (hb : t.data.toList.all isDig ≠ true) : Calls Tryd.prog 101 #[.string s] w fun e w' => e = .returned (.tuple #[.int .i64 0, .int .i64 33]) ∧ Below w.heap.size w w' := by
  have h1 : t.toList.isEmpty = false := by rw [ByteArray.toList_eq]; simpa using h
  have h2 : 0 ≤ idxR notDig t := by have := mt (allDig_of t).1 hb; omega
  have hI := hide (strings_IndexFunc 133 #[] (enters_of Tryd.func133 (by kernel_rfl) rfl) notDig t w (notDig_pays w))
  obtain ⟨I, hIe⟩ : ∃ I, idxR notDig t = I := ⟨_, rfl⟩
  rw [hIe] at h2 hI
  have HH := hide (And.intro h hb); clear h hb hIe
  go_enter Tryd.func101, Tryd.ntmps101
  go_wp2_with (first | (go_at_call 131; refine ((Hid.out HC) _).mono ?_; rintro e w1 ⟨rfl, rfl⟩) | (go_at_call 132; refine (Hid.out hI).mono ?_; rintro e w1 ⟨rfl, hb⟩))
  go_ret2
  exact ⟨rfl, hb⟩

set_option maxHeartbeats 400000 in
theorem parse_zero (w : World) (ht : t.size ≤ 9223372036854775807) (c : UInt8) (r : List UInt8) (h : t.data.toList = 48 :: r) (hb : t.data.toList.all isDig = true) (hz : below = true ∨ 1 < t.data.toList.length) :
    Calls Tryd.prog 101 #[.string s] w fun e w' => e = .returned (.tuple #[.int .i64 0, .int .i64 33]) ∧ Below w.heap.size w w' := by
  have h1 : t.toList.isEmpty = false := by rw [ByteArray.toList_eq, h]; rfl
  have h2 : idxR notDig t < 0 := (allDig_of t).2 hb
  have h2' : ¬ 0 ≤ idxR notDig t := by omega
  have hsz : 1 ≤ t.size := by rw [← size_list, h]; simp
  have h0 : t[0] = 48 := by
    have : t.data.toList[0]? = some 48 := by rw [h]; rfl
    rw [List.getElem?_eq_getElem (by rw [size_list]; omega)] at this
    exact Option.some.inj this
  have h3 : ((t[0].toNat : Int) == 48) = true := by rw [h0]; rfl
  rw [size_list] at hz
  have hI := hide (strings_IndexFunc 133 #[] (enters_of Tryd.func133 (by kernel_rfl) rfl) notDig t w (notDig_pays w))
  obtain ⟨I, hIe⟩ : ∃ I, idxR notDig t = I := ⟨_, rfl⟩
  rw [hIe] at h2' hI
  have HH := hide (And.intro h (And.intro hb h0)); clear h hb hIe h2 h0
  cases below
  · have h4 : (1 : Int) < (t.size : Int) := by rcases hz with hz | hz; (cases hz); omega
    clear hz
    go_enter Tryd.func101, Tryd.ntmps101
    go_wp2_with (first | (go_at_call 131; refine ((Hid.out HC) _).mono ?_; rintro e w1 ⟨rfl, rfl⟩) | (go_at_call 132; refine (Hid.out hI).mono ?_; rintro e w1 ⟨rfl, hb⟩))
    go_ret2
    exact ⟨rfl, hb⟩
  · clear hz
    go_enter Tryd.func101, Tryd.ntmps101
    go_wp2_with (first | (go_at_call 131; refine ((Hid.out HC) _).mono ?_; rintro e w1 ⟨rfl, rfl⟩) | (go_at_call 132; refine (Hid.out hI).mono ?_; rintro e w1 ⟨rfl, hb⟩))
    go_ret2
    exact ⟨rfl, hb⟩

set_option maxHeartbeats 1000000 in
set_option maxRecDepth 100000 in
theorem parse_val (w : World) (ht : t.size ≤ 9223372036854775807) (h : t.data.toList ≠ []) (hb : t.data.toList.all isDig = true) (hz : ¬ (t.data.toList.head? = some 48 ∧ (below = true ∨ 1 < t.data.toList.length))) :
    Calls Tryd.prog 101 #[.string s] w fun e w' => e = .returned (.tuple #[.int .i64 (pVal below t.data.toList).1, .int .i64 (pVal below t.data.toList).2]) ∧ Below w.heap.size w w' := by
  have h1 : t.toList.isEmpty = false := by rw [ByteArray.toList_eq]; simpa using h
  have h2 : idxR notDig t < 0 := (allDig_of t).2 hb
  have h2' : ¬ 0 ≤ idxR notDig t := by omega
  have hsz : 1 ≤ t.size := by
    have := List.length_pos_iff.2 h
    rw [size_list] at this; exact this
  have h0 : t.data.toList.head? = some (t[0]) := by
    rw [List.head?_eq_getElem?, List.getElem?_eq_getElem (by rw [size_list]; omega)]; rfl
  have h3 : ((t[0].toNat : Int) == 48) = true → below = false ∧ ¬ (1 : Int) < (t.size : Int) := by
    intro e
    have e' : t[0] = 48 := by
      have : t[0].toNat = 48 := by have := beq_iff_eq.1 e; omega
      exact UInt8.toNat_inj.1 this
    rw [h0, e'] at hz
    simp at hz
    refine ⟨hz.1, ?_⟩
    have := hz.2
    omega
  have hI := hide (strings_IndexFunc 133 #[] (enters_of Tryd.func133 (by kernel_rfl) rfl) notDig t w (notDig_pays w))
  obtain ⟨I, hIe⟩ : ∃ I, idxR notDig t = I := ⟨_, rfl⟩
  rw [hIe] at h2' hI
  have HA := hide hb
  have HH := hide h1
  clear h hb hIe h2 h0 hz
  have HR : ∀ k n, Hid (ParseRel t k n → n ≤ valFrom 0 t.data.toList) := fun k n => hide ParseRel.le
  rcases Bool.eq_false_or_eq_true ((t[0].toNat : Int) == 48) with h5 | h5
  · obtain ⟨hbl, h6⟩ := h3 h5
    subst hbl
    clear h3
    go_enter Tryd.func101, Tryd.ntmps101
    go_wp2_with (first | (go_at_call 131; refine ((Hid.out HC) _).mono ?_; rintro e w1 ⟨rfl, rfl⟩) | (go_at_call 132; refine (Hid.out hI).mono ?_; rintro e w1 ⟨rfl, hb⟩; obtain ⟨cap, W1, hcv, hrow, hbel, hlt, hcap⟩ := conv_bytes w1 t))
    have HB := hide (below_step hb hbel)
    clear hcv hI HC hb hbel
    go_loop [6, 36] (fun v i => ∃ k n : Nat, i = .int .i64 (k : Int) ∧ v = .int .u64 (n : Int) ∧ k ≤ t.size ∧ n ≤ 9223372036854775808 ∧ ParseRel t k n) (fun _ i => t.size - (intOf i).toNat)
    case atStart => exact ⟨0, 0, rfl, rfl, Nat.zero_le _, Nat.zero_le _, rfl⟩
    case round =>
      obtain ⟨k, n, rfl, rfl, hk, hn, hrel⟩ := hrel
      by_cases hlt2 : k < t.size
      · obtain ⟨c, hc⟩ : ∃ c, t.data.toList[k]? = some c := ⟨_, List.getElem?_eq_getElem (by rw [size_list]; exact hlt2)⟩
        have hcell := hrow.cell hc
        have hd : isDig c = true := List.all_eq_true.1 HA.out c (List.mem_of_getElem? hc)
        have hd1 : 48 ≤ (c.toNat : Int) := by simp [isDig] at hd; omega
        have hd2 : (c.toNat : Int) ≤ 57 := by simp [isDig] at hd; omega
        have HN := hide (hrel.next hc)
        have HC2 := hide hc; clear hc hd
        have hn' : (n : Int) ≤ 9223372036854775808 := by omega
        clear hn
        by_cases hgt : (9223372036854775808 - ((c.toNat : Int) - 48)) / 10 < (n : Int)
        · go_wp2
          go_ret2
          refine ⟨ret_two (pVal_great _ _ ?_).symm, HB.out⟩
          have h1 := HN.out.le
          omega
        · go_wp2
          go_round
          case rel => exact ⟨k + 1, n * 10 + (c.toNat - 48), by go_num, by go_num, by omega, by omega, HN.out⟩
          case measure => simp [intOf]; omega
      · have hv := hrel.end_ (by omega)
        have hn' : (n : Int) ≤ 9223372036854775808 := by omega
        by_cases hm : (9223372036854775807 : Int) < n
        · have HV := hide (show pVal false t.data.toList = (0, 4) by unfold pVal; rw [← hv, if_neg (by simp), if_neg (by omega)])
          clear hn
          have HV2 := hide hv; clear hv hrel
          go_wp2
          go_ret2
          exact ⟨ret_two HV.out.symm, HB.out⟩
        · have HV := hide (show pVal false t.data.toList = ((n : Int), 0) by unfold pVal; rw [← hv, if_neg (by simp), if_pos (by omega)])
          clear hn
          have HV2 := hide hv; clear hv hrel
          go_wp2
          go_ret2
          exact ⟨ret_two HV.out.symm, HB.out⟩
  · clear h3
    go_enter Tryd.func101, Tryd.ntmps101
    go_wp2_with (first | (go_at_call 131; refine ((Hid.out HC) _).mono ?_; rintro e w1 ⟨rfl, rfl⟩) | (go_at_call 132; refine (Hid.out hI).mono ?_; rintro e w1 ⟨rfl, hb⟩; obtain ⟨cap, W1, hcv, hrow, hbel, hlt, hcap⟩ := conv_bytes w1 t))
    have HB := hide (below_step hb hbel)
    clear hcv hI HC hb hbel
    go_loop [6, 36] (fun v i => ∃ k n : Nat, i = .int .i64 (k : Int) ∧ v = .int .u64 (n : Int) ∧ k ≤ t.size ∧ n ≤ 9223372036854775808 ∧ ParseRel t k n) (fun _ i => t.size - (intOf i).toNat)
    case atStart => exact ⟨0, 0, rfl, rfl, Nat.zero_le _, Nat.zero_le _, rfl⟩
    case round =>
      obtain ⟨k, n, rfl, rfl, hk, hn, hrel⟩ := hrel
      by_cases hlt2 : k < t.size
      · obtain ⟨c, hc⟩ : ∃ c, t.data.toList[k]? = some c := ⟨_, List.getElem?_eq_getElem (by rw [size_list]; exact hlt2)⟩
        have hcell := hrow.cell hc
        have hd : isDig c = true := List.all_eq_true.1 HA.out c (List.mem_of_getElem? hc)
        have hd1 : 48 ≤ (c.toNat : Int) := by simp [isDig] at hd; omega
        have hd2 : (c.toNat : Int) ≤ 57 := by simp [isDig] at hd; omega
        have HN := hide (hrel.next hc)
        have HC2 := hide hc; clear hc hd
        have hn' : (n : Int) ≤ 9223372036854775808 := by omega
        clear hn
        by_cases hgt : (9223372036854775808 - ((c.toNat : Int) - 48)) / 10 < (n : Int)
        · go_wp2
          go_ret2
          refine ⟨ret_two (pVal_great _ _ ?_).symm, HB.out⟩
          have h1 := HN.out.le
          omega
        · go_wp2
          go_round
          case rel => exact ⟨k + 1, n * 10 + (c.toNat - 48), by go_num, by go_num, by omega, by omega, HN.out⟩
          case measure => simp [intOf]; omega
      · have hv := hrel.end_ (by omega)
        have hn' : (n : Int) ≤ 9223372036854775808 := by omega
        cases below
        · by_cases hm : (9223372036854775807 : Int) < n
          · have HV := hide (show pVal false t.data.toList = (0, 4) by unfold pVal; rw [← hv, if_neg (by simp), if_neg (by omega)])
            clear hn
            have HV2 := hide hv; clear hv hrel
            go_wp2
            go_ret2
            exact ⟨ret_two HV.out.symm, HB.out⟩
          · have HV := hide (show pVal false t.data.toList = ((n : Int), 0) by unfold pVal; rw [← hv, if_neg (by simp), if_pos (by omega)])
            clear hn
            have HV2 := hide hv; clear hv hrel
            go_wp2
            go_ret2
            exact ⟨ret_two HV.out.symm, HB.out⟩
        · obtain ⟨X, hX1, hX2⟩ := conv_back n hn
          have HV := hide (show pVal true t.data.toList = (-(n : Int), 0) by unfold pVal; rw [← hv, if_pos rfl, if_pos (by omega)])
          clear hn
          have HV2 := hide hv; clear hv hrel
          go_wp2
          go_ret2
          exact ⟨ret_two HV.out.symm, HB.out⟩
end

theorem parse_any (s : ByteArray) (w : World) (hs : s.size ≤ 9223372036854775807) :
    Calls Tryd.prog 101 #[.string s] w fun e w' => e = .returned (.tuple #[.int .i64 (pParse s.data.toList).1, .int .i64 (pParse s.data.toList).2]) ∧ Below w.heap.size w w' := by
  obtain ⟨t, below, hcd, hcall⟩ := cutDash_ex s
  have hp : pParse s.data.toList = pParseT t.data.toList below := by unfold pParse; rw [hcd.is]
  rw [hp]
  have ht : t.size ≤ 9223372036854775807 := Nat.le_trans hcd.le hs
  by_cases h1 : t.data.toList = []
  · rw [show pParseT t.data.toList below = (0, 8) by unfold pParseT; rw [if_pos h1]]
    exact (parse_empty s t below hcall w h1).mono fun _ _ ⟨he, hw⟩ => ⟨he, hw ▸ Below.refl _ _⟩
  · by_cases h2 : t.data.toList.all isDig = true
    · by_cases h3 : t.data.toList.head? = some 48 ∧ (below = true ∨ 1 < t.data.toList.length)
      · rw [show pParseT t.data.toList below = (0, 33) by unfold pParseT; rw [if_neg h1, if_neg (by simp [h2]), if_pos h3]]
        obtain ⟨h3, h4⟩ := h3
        cases hl : t.data.toList with
        | nil => exact absurd hl h1
        | cons c r =>
          rw [hl] at h3
          simp at h3
          subst h3
          exact parse_zero s t below hcall w ht 48 r hl h2 h4
      · rw [show pParseT t.data.toList below = pVal below t.data.toList by unfold pParseT pVal; rw [if_neg h1, if_neg (by simp [h2]), if_neg h3]]
        exact parse_val s t below hcall w ht h1 h2 h3
    · rw [show pParseT t.data.toList below = (0, 33) by unfold pParseT; rw [if_neg h1, if_pos (by simpa using h2)]]
      exact parse_bad s t below hcall w h1 h2
end Go.Proofs.YtdnmgpidfjkiaaaDoor
