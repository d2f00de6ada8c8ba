/-
  slices.IndexFunc and ContainsFunc over octets; Blank, Letter, Name.
-/
import Derived.Test.YtnepogddjinpoaaGreatDoorOct
import Derived.Test.YtnepogddjinpoaaGreatDoorM1
namespace Go.Proofs.YtnepogddjinpoaaGreatDoor
open Go.RowKit
set_option linter.unusedVariables false

/-- A function value on octets answers p and leaves the world alone. -/
def PredB (P : Program) (g : Nat) (lb : Array Value) (p : UInt8 → Bool) : Prop :=
  ∀ (W : World) (x : UInt8), Calls P g (#[.int .u8 (x.toNat : Int)] ++ lb) W fun e w' => e = .returned (.bool (p x)) ∧ W = w'
def idxB (p : UInt8 → Bool) (l : List UInt8) : Int := (l.findIdx? p).elim (-1) (fun i => (i : Int))
theorem idxB_any (p : UInt8 → Bool) (l : List UInt8) : decide (0 ≤ idxB p l) = l.any p := by
  unfold idxB
  cases h : l.findIdx? p with
  | none =>
    rw [List.findIdx?_eq_none_iff] at h
    have : l.any p = false := by rw [List.any_eq_false]; intro x hx; simp [h x hx]
    rw [this]; rfl
  | some i =>
    have hi : i < l.length ∧ p (l[i]?.getD 0) = true := by
      rw [List.findIdx?_eq_some_iff_getElem] at h
      obtain ⟨h1, h2, _⟩ := h
      exact ⟨h1, by rw [List.getElem?_eq_getElem h1]; exact h2⟩
    have : l.any p = true := by
      rw [List.any_eq_true]
      exact ⟨l[i], List.getElem_mem hi.1, by have := hi.2; rwa [List.getElem?_eq_getElem hi.1] at this⟩
    rw [this]
    simp
/-- None of the first k. -/
def NoneTo (p : UInt8 → Bool) (l : List UInt8) (k : Nat) : Prop := ∀ j c, j < k → l[j]? = some c → p c = false
theorem NoneTo.next {p : UInt8 → Bool} {l : List UInt8} {k : Nat} {c : UInt8} (h : NoneTo p l k) (hc : l[k]? = some c) (hp : p c = false) : NoneTo p l (k + 1) := by
  intro j d hj hd
  rcases Nat.lt_or_ge j k with h1 | h1
  · exact h j d h1 hd
  · have : j = k := by omega
    subst this
    rw [hc] at hd
    cases hd
    exact hp
theorem NoneTo.found {p : UInt8 → Bool} {l : List UInt8} {k : Nat} {c : UInt8} (h : NoneTo p l k) (hc : l[k]? = some c) (hp : p c = true) : (k : Int) = idxB p l := by
  unfold idxB
  obtain ⟨hk, hck⟩ := List.getElem?_eq_some_iff.1 hc
  have : l.findIdx? p = some k := by
    rw [List.findIdx?_eq_some_iff_getElem]
    refine ⟨hk, by rw [hck]; exact hp, fun j hj => ?_⟩
    have := h j l[j] hj (List.getElem?_eq_getElem (by omega))
    simp [this]
  rw [this]
  rfl
theorem NoneTo.end_ {p : UInt8 → Bool} {l : List UInt8} {k : Nat} (h : NoneTo p l k) (hk : l.length ≤ k) : -1 = idxB p l := by
  unfold idxB
  have : l.findIdx? p = none := by
    rw [List.findIdx?_eq_none_iff]
    intro x hx
    obtain ⟨i, hi, rfl⟩ := List.getElem_of_mem hx
    exact h i _ (by omega) (List.getElem?_eq_getElem hi)
  rw [this]
  rfl

set_option maxHeartbeats 1000000 in
set_option maxRecDepth 100000 in
theorem indexFuncB (g : Nat) (lb : Array Value) (eg : ∀ args w, (callFunc g args).run Tryz.prog w = .ok (.enter g args) w) (p : UInt8 → Bool) (hp : PredB Tryz.prog g lb p) (l : List UInt8) (r n cap : Nat) (w : World) (hrow : ByteRow w r l) (hn : l.length = n) (hs : n ≤ 9223372036854775807) :
    Calls Tryz.prog 194 #[.slice (some ⟨r, 0, none⟩) n cap, .func (.func g) #[] lb] w fun e w' => e = .returned (.int .i64 (idxB p l)) ∧ w = w' := by
  have HP := hide hp; have HR := hide hrow; have HN := hide hn
  clear hp hrow hn
  go_enter Tryz.func194, Tryz.ntmps194
  go_wp2
  go_loop [8] (fun i => ∃ k : Nat, i = .int .i64 (k : Int) ∧ k ≤ n ∧ Hid (NoneTo p l k)) (fun i => n - (intOf i).toNat)
  case atStart => exact ⟨0, rfl, Nat.zero_le _, fun j c hj _ => by omega⟩
  case round =>
    obtain ⟨k, rfl, hk, hrel⟩ := hrel
    by_cases hlt : k < n
    · obtain ⟨c, hc⟩ : ∃ c, l[k]? = some c := ⟨_, List.getElem?_eq_getElem (by have := HN.out; omega)⟩
      have hcell := HR.out.cell hc
      have HC := hide hc; clear hc
      rcases Bool.eq_false_or_eq_true (p c) with hpc | hpc
      · have cP := HP.out w c
        rw [hpc] at cP
        have HF := hide (hrel.out.found HC.out hpc)
        have cP' := hide cP; clear cP hpc
        go_wp2_with (go_at_fn g; refine (Hid.out cP').mono ?_; rintro e w1 ⟨rfl, rfl⟩)
        go_ret
        exact ⟨ret_int HF.out, rfl⟩
      · have cP := HP.out w c
        rw [hpc] at cP
        have HF := hide (hrel.out.next HC.out hpc)
        have cP' := hide cP; clear cP hpc
        go_wp2_with (go_at_fn g; refine (Hid.out cP').mono ?_; rintro e w1 ⟨rfl, rfl⟩)
        go_round
        case rel => exact ⟨k + 1, by go_num, by omega, HF⟩
        case measure => simp [intOf]; omega
    · have HF := hide (hrel.out.end_ (by have := HN.out; omega))
      go_wp2
      go_ret
      exact ⟨ret_int HF.out, rfl⟩

set_option maxHeartbeats 400000 in
theorem containsFuncB (g : Nat) (lb : Array Value) (eg : ∀ args w, (callFunc g args).run Tryz.prog w = .ok (.enter g args) w) (p : UInt8 → Bool) (hp : PredB Tryz.prog g lb p) (l : List UInt8) (r n cap : Nat) (w : World) (hrow : ByteRow w r l) (hn : l.length = n) (hs : n ≤ 9223372036854775807) :
    Calls Tryz.prog 150 #[.slice (some ⟨r, 0, none⟩) n cap, .func (.func g) #[] lb] w fun e w' => e = .returned (.bool (l.any p)) ∧ w = w' := by
  have hc := hide (indexFuncB g lb eg p hp l r n cap w hrow hn hs)
  have hA := idxB_any p l
  generalize idxB p l = I at hA hc
  have HA := hide hA
  clear hrow hp hn hA
  go_enter Tryz.func150, Tryz.ntmps150
  go_wp2_with (go_at_call 194; refine (Hid.out hc).mono ?_; rintro e w1 ⟨rfl, rfl⟩)
  go_ret
  exact ⟨ret_bool HA.out, rfl⟩


set_option maxHeartbeats 400000 in
theorem letter_any (c : UInt8) (w : World) : Calls Tryz.prog 152 #[.int .u8 (c.toNat : Int)] w fun e w' => e = .returned (.bool (isLetter c)) ∧ w = w' := by
  rw [letter_or c]
  obtain ⟨d, hd⟩ : ∃ d, (c ||| 32).toNat = d := ⟨_, rfl⟩
  have hor : bits BinOp.or IntKind.u8 (c.toNat : Int) 32 = (d : Int) := by
    rw [← hd, UInt8.toNat_or]
    exact u8_or_nat c.toNat 32 c.toNat_lt (by omega)
  rw [hd]
  clear hd
  by_cases h1 : 97 ≤ (d : Int)
  · by_cases h2 : (d : Int) ≤ 122
    · rw [show (decide (97 ≤ d) && decide (d ≤ 122)) = true by simp; omega]
      go_enter Tryz.func152, Tryz.ntmps152
      go_wp2
      go_ret
      exact ⟨rfl, rfl⟩
    · rw [show (decide (97 ≤ d) && decide (d ≤ 122)) = false by simp; omega]
      have h2' : decide ((d : Int) ≤ 122) = false := by simpa using h2
      clear h2
      go_enter Tryz.func152, Tryz.ntmps152
      go_wp2
      go_ret
      exact ⟨rfl, rfl⟩
  · rw [show (decide (97 ≤ d) && decide (d ≤ 122)) = false by simp; omega]
    have h2' : decide (97 ≤ (d : Int)) = false := by simpa using h1
    clear h1
    go_enter Tryz.func152, Tryz.ntmps152
    go_wp2
    go_ret
    exact ⟨rfl, rfl⟩

set_option maxHeartbeats 400000 in
theorem notName_pays : PredB Tryz.prog 151 #[] notName := by
  intro W c
  have cL := hide (fun w => letter_any c w)
  have hn : notName c = (!isLetter c && !(c.toNat == 95) && !isDig c) := rfl
  have hdg : isDig c = (decide (48 ≤ c.toNat) && decide (c.toNat ≤ 57)) := rfl
  rcases Bool.eq_false_or_eq_true (isLetter c) with h1 | h1
  · rw [h1] at cL
    rw [hn, h1]
    clear hn hdg h1
    go_enter Tryz.func151, Tryz.ntmps151
    go_wp2_with (go_at_call 152; refine (cL.out _).mono ?_; rintro e w1 ⟨rfl, rfl⟩)
    go_ret
    exact ⟨rfl, rfl⟩
  · rw [h1] at cL
    rw [hn, h1, hdg]
    clear hn hdg h1
    by_cases h2 : c.toNat = 95
    · have e2 : ((c.toNat : Int) != 95) = false := by simp; omega
      rw [show (!false && !(c.toNat == 95) && !(decide (48 ≤ c.toNat) && decide (c.toNat ≤ 57))) = false by simp [h2]]
      clear h2
      go_enter Tryz.func151, Tryz.ntmps151
      go_wp2_with (go_at_call 152; refine (cL.out _).mono ?_; rintro e w1 ⟨rfl, rfl⟩)
      go_ret
      exact ⟨rfl, rfl⟩
    · have e2 : ((c.toNat : Int) != 95) = true := by simp; omega
      by_cases h3 : (c.toNat : Int) < 48
      · rw [show (!false && !(c.toNat == 95) && !(decide (48 ≤ c.toNat) && decide (c.toNat ≤ 57))) = true by simp [h2]; omega]
        clear h2
        go_enter Tryz.func151, Tryz.ntmps151
        go_wp2_with (go_at_call 152; refine (cL.out _).mono ?_; rintro e w1 ⟨rfl, rfl⟩)
        go_ret
        exact ⟨rfl, rfl⟩
      · by_cases h4 : 57 < (c.toNat : Int)
        · rw [show (!false && !(c.toNat == 95) && !(decide (48 ≤ c.toNat) && decide (c.toNat ≤ 57))) = true by simp [h2]; omega]
          clear h2
          go_enter Tryz.func151, Tryz.ntmps151
          go_wp2_with (go_at_call 152; refine (cL.out _).mono ?_; rintro e w1 ⟨rfl, rfl⟩)
          go_ret
          exact ⟨rfl, rfl⟩
        · rw [show (!false && !(c.toNat == 95) && !(decide (48 ≤ c.toNat) && decide (c.toNat ≤ 57))) = false by simp; omega]
          have e3 : decide ((c.toNat : Int) < 48) = false := by simpa using h3
          have e4 : decide (57 < (c.toNat : Int)) = false := by simpa using h4
          clear h2 h3 h4
          go_enter Tryz.func151, Tryz.ntmps151
          go_wp2_with (go_at_call 152; refine (cL.out _).mono ?_; rintro e w1 ⟨rfl, rfl⟩)
          go_ret
          exact ⟨rfl, rfl⟩


set_option maxHeartbeats 1000000 in
set_option maxRecDepth 100000 in
theorem name_any (s : ByteArray) (w : World) (hs : s.size ≤ 9223372036854775807) :
    Calls Tryz.prog 121 #[.string s] w fun e w' => e = .returned (.bool (isName s.data.toList)) ∧ Below w.heap.size w w' := by
  cases hl : s.data.toList with
  | nil =>
    have h1 : s.toList = [] := by rw [ByteArray.toList_eq]; exact hl
    have HL := hide hl; clear hl
    go_enter Tryz.func121, Tryz.ntmps121
    go_wp2
    go_ret
    exact ⟨rfl, Below.refl _ _⟩
  | cons c r =>
    have h1 : s.toList.isEmpty = false := by rw [ByteArray.toList_eq, hl]; rfl
    have hsz : s.size = r.length + 1 := by rw [← size_list, hl]; rfl
    have hpos : 0 < s.size := by omega
    have h0 : s[0]'hpos = c := by
      have : s.data.toList[0]? = some (s[0]'hpos) := by rw [List.getElem?_eq_getElem (by rw [size_list]; exact hpos)]; rfl
      rw [hl] at this
      simpa using this.symm
    by_cases h2 : 32 < (s.size : Int)
    · rw [show isName (c :: r) = false by
        rw [isName_cons, show decide (r.length < 32) = false by simp; omega]; rfl]
      have HH := hide (And.intro hl (And.intro h0 hsz)); clear hl h0 hsz
      go_enter Tryz.func121, Tryz.ntmps121
      go_wp2
      go_ret
      exact ⟨rfl, Below.refl _ _⟩
    · have h2' : decide (32 < (s.size : Int)) = false := by simpa using h2
      have hr : decide (r.length < 32) = true := by simp; omega
      have hdg : isDig c = (decide (48 ≤ c.toNat) && decide (c.toNat ≤ 57)) := rfl
      by_cases h3 : 48 ≤ (c.toNat : Int)
      · by_cases h4 : (c.toNat : Int) ≤ 57
        · rw [show isName (c :: r) = false by
            rw [isName_cons, show isDig c = true by rw [hdg]; simp; omega]; simp]
          rw [← h0] at h3 h4
          have HH := hide (And.intro hl (And.intro h0 (And.intro hsz (And.intro hr (And.intro hdg h2))))); clear hl h0 hsz hr hdg h2
          go_enter Tryz.func121, Tryz.ntmps121
          go_wp2
          go_ret
          exact ⟨rfl, Below.refl _ _⟩
        · have hN : isName (c :: r) = !(c :: r).any notName := by
            rw [isName_cons, show isDig c = false by rw [hdg]; simp; omega, hr]; simp
          rw [hN, ← hl]
          rw [← h0] at h3 h4
          have h4' : decide (((s[0]'hpos).toNat : Int) ≤ 57) = false := by simpa using h4
          have HH := hide (And.intro hl (And.intro h0 (And.intro hsz (And.intro hr (And.intro hdg (And.intro h2 (And.intro hN h4))))))); clear hl h0 hsz hr hdg h2 hN h4
          obtain ⟨cap, W1, hcv, hrow, hbel, hlt, hcap⟩ := conv_bytes w s
          have cC := hide (containsFuncB 151 #[] (enters_of Tryz.func151 (by kernel_rfl) rfl) notName notName_pays s.data.toList w.heap.size s.size cap W1 hrow (size_list s) hs)
          generalize s.data.toList.any notName = B at cC ⊢
          have HB := hide hbel
          clear hrow hbel
          go_enter Tryz.func121, Tryz.ntmps121
          go_wp2_with (go_at_call 150; refine (Hid.out cC).mono ?_; rintro e w1 ⟨rfl, rfl⟩)
          go_ret
          exact ⟨rfl, HB.out⟩
      · have hN : isName (c :: r) = !(c :: r).any notName := by
          rw [isName_cons, show isDig c = false by rw [hdg]; simp; omega, hr]; simp
        rw [hN, ← hl]
        rw [← h0] at h3
        have h3' : decide (48 ≤ ((s[0]'hpos).toNat : Int)) = false := by simpa using h3
        have HH := hide (And.intro hl (And.intro h0 (And.intro hsz (And.intro hr (And.intro hdg (And.intro h2 hN)))))); clear hl h0 hsz hr hdg h2 hN
        have h3'' : ((s[0]'hpos).toNat : Int) < 48 := by omega
        clear h3
        obtain ⟨cap, W1, hcv, hrow, hbel, hlt, hcap⟩ := conv_bytes w s
        have cC := hide (containsFuncB 151 #[] (enters_of Tryz.func151 (by kernel_rfl) rfl) notName notName_pays s.data.toList w.heap.size s.size cap W1 hrow (size_list s) hs)
        generalize s.data.toList.any notName = B at cC ⊢
        have HB := hide hbel
        clear hrow hbel
        go_enter Tryz.func121, Tryz.ntmps121
        go_wp2_with (go_at_call 150; refine (Hid.out cC).mono ?_; rintro e w1 ⟨rfl, rfl⟩)
        go_ret
        exact ⟨rfl, HB.out⟩
end Go.Proofs.YtnepogddjinpoaaGreatDoor
