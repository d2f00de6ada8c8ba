/-
  slices.IndexFunc and ContainsFunc over octets; Blank, Letter, Name.
-/
import Derived.Test.YtbcbbeenkndgcaaDoorOct
import Derived.Test.YtbcbbeenkndgcaaDoorParseSpec
namespace Go.Proofs.YtbcbbeenkndgcaaDoor
open Go.RowKit
set_option linter.unusedVariables false

/-- A function value on octets answers p and leaves the world alone. -/
def PredB (P : Program) (g : Nat) (lb : Array Value) (p : UInt8 → Bool) : Prop :=
  ∀ (W : World) (x : UInt8), Calls P g (#[.int .u8 (x.toNat : Int)] ++ lb) W fun e w' => e = .returned (.bool (p x)) ∧ W = w'
def idxB (p : UInt8 → Bool) (l : List UInt8) : Int := (l.findIdx? p).elim (-1) (fun i => (i : Int))
theorem idxB_any (p : UInt8 → Bool) (l : List UInt8) : decide (0 ≤ idxB p l) = l.any p := by
  unfold idxB
  cases h : l.findIdx? p with
  | none =>
    rw [List.findIdx?_eq_none_iff] at h
    have : l.any p = false := by rw [List.any_eq_false]; intro x hx; simp [h x hx]
    rw [this]; rfl
  | some i =>
    have hi : i < l.length ∧ p (l[i]?.getD 0) = true := by
      rw [List.findIdx?_eq_some_iff_getElem] at h
      obtain ⟨h1, h2, _⟩ := h
      exact ⟨h1, by rw [List.getElem?_eq_getElem h1]; exact h2⟩
    have : l.any p = true := by
      rw [List.any_eq_true]
      exact ⟨l[i], List.getElem_mem hi.1, by have := hi.2; rwa [List.getElem?_eq_getElem hi.1] at this⟩
    rw [this]
    simp
/-- None of the first k. -/
def NoneTo (p : UInt8 → Bool) (l : List UInt8) (k : Nat) : Prop := ∀ j c, j < k → l[j]? = some c → p c = false
theorem NoneTo.next {p : UInt8 → Bool} {l : List UInt8} {k : Nat} {c : UInt8} (h : NoneTo p l k) (hc : l[k]? = some c) (hp : p c = false) : NoneTo p l (k + 1) := by
  intro j d hj hd
  rcases Nat.lt_or_ge j k with h1 | h1
  · exact h j d h1 hd
  · have : j = k := by omega
    subst this
    rw [hc] at hd
    cases hd
    exact hp
theorem NoneTo.found {p : UInt8 → Bool} {l : List UInt8} {k : Nat} {c : UInt8} (h : NoneTo p l k) (hc : l[k]? = some c) (hp : p c = true) : (k : Int) = idxB p l := by
  unfold idxB
  obtain ⟨hk, hck⟩ := List.getElem?_eq_some_iff.1 hc
  have : l.findIdx? p = some k := by
    rw [List.findIdx?_eq_some_iff_getElem]
    refine ⟨hk, by rw [hck]; exact hp, fun j hj => ?_⟩
    have := h j l[j] hj (List.getElem?_eq_getElem (by omega))
    simp [this]
  rw [this]
  rfl
theorem NoneTo.end_ {p : UInt8 → Bool} {l : List UInt8} {k : Nat} (h : NoneTo p l k) (hk : l.length ≤ k) : -1 = idxB p l := by
  unfold idxB
  have : l.findIdx? p = none := by
    rw [List.findIdx?_eq_none_iff]
    intro x hx
    obtain ⟨i, hi, rfl⟩ := List.getElem_of_mem hx
    exact h i _ (by omega) (List.getElem?_eq_getElem hi)
  rw [this]
  rfl

set_option maxHeartbeats 1000000 in
set_option maxRecDepth 100000 in
theorem indexFuncB (g : Nat) (lb : Array Value) (eg : ∀ args w, (callFunc g args).run Tryd.prog w = .ok (.enter g args) w) (p : UInt8 → Bool) (hp : PredB Tryd.prog g lb p) (l : List UInt8) (r n cap : Nat) (w : World) (hrow : ByteRow w r l) (hn : l.length = n) (hs : n ≤ 9223372036854775807) :
    Calls Tryd.prog 90 #[.slice (some ⟨r, 0, none⟩) n cap, .func (.func g) #[] lb] w fun e w' => e = .returned (.int .i64 (idxB p l)) ∧ w = w' := by
  have HP := hide hp; have HR := hide hrow; have HN := hide hn
  clear hp hrow hn
  go_enter Tryd.func90, Tryd.ntmps90
  go_wp2
  go_loop [8] (fun i => ∃ k : Nat, i = .int .i64 (k : Int) ∧ k ≤ n ∧ Hid (NoneTo p l k)) (fun i => n - (intOf i).toNat)
  case atStart => exact ⟨0, rfl, Nat.zero_le _, fun j c hj _ => by omega⟩
  case round =>
    obtain ⟨k, rfl, hk, hrel⟩ := hrel
    by_cases hlt : k < n
    · obtain ⟨c, hc⟩ : ∃ c, l[k]? = some c := ⟨_, List.getElem?_eq_getElem (by have := HN.out; omega)⟩
      have hcell := HR.out.cell hc
      have HC := hide hc; clear hc
      rcases Bool.eq_false_or_eq_true (p c) with hpc | hpc
      · have cP := HP.out w c
        rw [hpc] at cP
        have HF := hide (hrel.out.found HC.out hpc)
        have cP' := hide cP; clear cP hpc
        go_wp2_with (go_at_fn g; refine (Hid.out cP').mono ?_; rintro e w1 ⟨rfl, rfl⟩)
        go_ret
        exact ⟨ret_int HF.out, rfl⟩
      · have cP := HP.out w c
        rw [hpc] at cP
        have HF := hide (hrel.out.next HC.out hpc)
        have cP' := hide cP; clear cP hpc
        go_wp2_with (go_at_fn g; refine (Hid.out cP').mono ?_; rintro e w1 ⟨rfl, rfl⟩)
        go_round
        case rel => exact ⟨k + 1, by go_num, by omega, HF⟩
        case measure => simp [intOf]; omega
    · have HF := hide (hrel.out.end_ (by have := HN.out; omega))
      go_wp2
      go_ret
      exact ⟨ret_int HF.out, rfl⟩

set_option maxHeartbeats 400000 in
theorem containsFuncB (g : Nat) (lb : Array Value) (eg : ∀ args w, (callFunc g args).run Tryd.prog w = .ok (.enter g args) w) (p : UInt8 → Bool) (hp : PredB Tryd.prog g lb p) (l : List UInt8) (r n cap : Nat) (w : World) (hrow : ByteRow w r l) (hn : l.length = n) (hs : n ≤ 9223372036854775807) :
    Calls Tryd.prog 64 #[.slice (some ⟨r, 0, none⟩) n cap, .func (.func g) #[] lb] w fun e w' => e = .returned (.bool (l.any p)) ∧ w = w' := by
  have hc := hide (indexFuncB g lb eg p hp l r n cap w hrow hn hs)
  have hA := idxB_any p l
  generalize idxB p l = I at hA hc
  have HA := hide hA
  clear hrow hp hn hA
  go_enter Tryd.func64, Tryd.ntmps64
  go_wp2_with (go_at_call 90; refine (Hid.out hc).mono ?_; rintro e w1 ⟨rfl, rfl⟩)
  go_ret
  exact ⟨ret_bool HA.out, rfl⟩


set_option maxHeartbeats 400000 in
theorem letter_any (c : UInt8) (w : World) : Calls Tryd.prog 63 #[.int .u8 (c.toNat : Int)] w fun e w' => e = .returned (.bool (isLetter c)) ∧ w = w' := by
  rw [letter_or c]
  obtain ⟨d, hd⟩ : ∃ d, (c ||| 32).toNat = d := ⟨_, rfl⟩
  have hor : bits BinOp.or IntKind.u8 (c.toNat : Int) 32 = (d : Int) := by
    rw [← hd, UInt8.toNat_or]
    exact u8_or_nat c.toNat 32 c.toNat_lt (by omega)
  rw [hd]
  clear hd
  by_cases h1 : 97 ≤ (d : Int)
  · by_cases h2 : (d : Int) ≤ 122
    · rw [show (decide (97 ≤ d) && decide (d ≤ 122)) = true by simp; omega]
      go_enter Tryd.func63, Tryd.ntmps63
      go_wp2
      go_ret
      exact ⟨rfl, rfl⟩
    · rw [show (decide (97 ≤ d) && decide (d ≤ 122)) = false by simp; omega]
      have h2' : decide ((d : Int) ≤ 122) = false := by simpa using h2
      clear h2
      go_enter Tryd.func63, Tryd.ntmps63
      go_wp2
      go_ret
      exact ⟨rfl, rfl⟩
  · rw [show (decide (97 ≤ d) && decide (d ≤ 122)) = false by simp; omega]
    have h2' : decide (97 ≤ (d : Int)) = false := by simpa using h1
    clear h1
    go_enter Tryd.func63, Tryd.ntmps63
    go_wp2
    go_ret
    exact ⟨rfl, rfl⟩

/-- What no name holds. -/
def notName (c : UInt8) : Bool := !isLetter c && !(c.toNat == 95) && !isDig c

/-- Is it a name? -/
def isName (l : List UInt8) : Bool := match l with
  | [] => false
  | c :: r => decide (r.length < 32) && !isDig c && !(c :: r).any notName
theorem isName_cons (c : UInt8) (r : List UInt8) : isName (c :: r) = (decide (r.length < 32) && !isDig c && !(c :: r).any notName) := rfl

end Go.Proofs.YtbcbbeenkndgcaaDoor
