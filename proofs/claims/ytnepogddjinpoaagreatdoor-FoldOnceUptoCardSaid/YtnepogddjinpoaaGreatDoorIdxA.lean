/-
  slices.IndexFunc and ContainsFunc over rows of nodes, calls, arguments, texts.
-/
import Derived.Test.YtnepogddjinpoaaGreatDoorOwnNode
import Derived.Deep.QuietTactic
import Derived.Deep.RegionWith
import Derived.Laws.ResultCell
import Derived.Shelf.Abstract
namespace Go.Proofs.YtnepogddjinpoaaGreatDoor
open Go.RowKit
set_option linter.unusedVariables false
set_option linter.unusedSimpArgs false

def idxP {α : Type} (p : α → Bool) (l : List α) : Int := match l.findIdx? p with | some i => (i : Int) | none => -1
def NoneToP {α : Type} (p : α → Bool) (l : List α) (k : Nat) : Prop := ∀ j c, j < k → l[j]? = some c → p c = false
theorem idxP_any {α : Type} (p : α → Bool) (l : List α) : decide (0 ≤ idxP p l) = l.any p := by
  unfold idxP
  cases h : l.findIdx? p with
  | none =>
    rw [List.findIdx?_eq_none_iff] at h
    have : l.any p = false := by rw [List.any_eq_false]; intro x hx; simp [h x hx]
    rw [this]; rfl
  | some i =>
    have h1 := (List.findIdx?_eq_some_iff_getElem.1 h)
    obtain ⟨hi, hp, _⟩ := h1
    have : l.any p = true := List.any_eq_true.2 ⟨l[i], List.getElem_mem hi, hp⟩
    rw [this]; simp
theorem NoneToP.next {α : Type} {p : α → Bool} {l : List α} {k : Nat} {c : α} (h : NoneToP p l k) (hc : l[k]? = some c) (hp : p c = false) : NoneToP p l (k + 1) := by
  intro j d hj hd
  rcases Nat.lt_or_ge j k with h1 | h1
  · exact h j d h1 hd
  · obtain rfl : j = k := by omega
    rw [hc] at hd; injection hd with hd; subst hd; exact hp
theorem NoneToP.found {α : Type} {p : α → Bool} {l : List α} {k : Nat} {c : α} (h : NoneToP p l k) (hc : l[k]? = some c) (hp : p c = true) : (k : Int) = idxP p l := by
  unfold idxP
  obtain ⟨hk, he⟩ := List.getElem?_eq_some_iff.1 hc
  have : l.findIdx? p = some k := by
    rw [List.findIdx?_eq_some_iff_getElem]
    refine ⟨hk, by rw [he]; exact hp, fun j hj => ?_⟩
    have := h j l[j] hj (List.getElem?_eq_getElem (by omega))
    simp [this]
  rw [this]
theorem NoneToP.end_ {α : Type} {p : α → Bool} {l : List α} {k : Nat} (h : NoneToP p l k) (hk : l.length ≤ k) : -1 = idxP p l := by
  unfold idxP
  have : l.findIdx? p = none := by
    rw [List.findIdx?_eq_none_iff]
    intro x hx
    obtain ⟨i, hi, rfl⟩ := List.getElem_of_mem hx
    exact h i _ (by omega) (List.getElem?_eq_getElem hi)
  rw [this]
/-- What a function is handed of an element: its one cell, or its cells. -/
def elemV : List Value → Value
  | [v] => v
  | vs => .agg vs.toArray
/-- A function value answers p of the elements of a list, whatever was made since. -/
def PredA {α : Type} (P : Program) (g : Nat) (lb : Array Value) (R : Rel α) (U : World → Nat → Prop) (p : α → Bool) (l : List α) (w : World) : Prop :=
  ∀ (W : World) (vs : List Value) (x : α), Below w.heap.size w W → x ∈ l → R U W vs x → Calls P g (#[elemV vs] ++ lb) W fun e w' => e = .returned (.bool (p x)) ∧ Below W.heap.size W w'

set_option maxHeartbeats 1000000 in
set_option maxRecDepth 100000 in
theorem indexFuncN (dn : Nat) (g : Nat) (lb : Array Value) (eg : ∀ args w, (callFunc g args).run Tryz.prog w = .ok (.enter g args) w) (U : World → Nat → Prop) (hU : Lasts U) (p : NT dn → Bool) (l : List (NT dn)) (a : Option Addr) (cap : Nat) (w : World) (hp : PredA Tryz.prog g lb (NodeR dn) U p l w) (h : AtR (NodeR dn) 9 U w a l) (hlen : l.length ≤ 1048576) :
    Calls Tryz.prog 62 #[.slice a l.length cap, .func (.func g) #[] lb] w fun e w' => e = .returned (.int .i64 (idxP p l)) ∧ Below w.heap.size w w' := by
  obtain ⟨n, hn⟩ : ∃ n, l.length = n := ⟨_, rfl⟩
  rw [hn] at hlen ⊢
  have HP := hide hp; have HR := hide h; have HN := hide hn
  clear hp h hn
  go_enter Tryz.func62, Tryz.ntmps62
  go_wp2
  go_loopw [8] (fun i wr => ∃ k : Nat, i = .int .i64 (k : Int) ∧ k ≤ n ∧ Below w.heap.size w wr ∧ Hid (NoneToP p l k)) (fun i _ => n - (intOf i).toNat)
  case atStart => exact ⟨0, rfl, Nat.zero_le _, Below.refl _ _, fun j c hj _ => by omega⟩
  case round =>
    obtain ⟨k, rfl, hk, hb, hrel⟩ := hrel
    by_cases hlt : k < n
    · obtain ⟨x, hx⟩ : ∃ x, l[k]? = some x := ⟨_, List.getElem?_eq_getElem (by have := HN.out; omega)⟩
      obtain ⟨gg, o, vs, rfl, hg, _, _, hcell, hN⟩ := (HR.out.on (NodeR.steady dn) (hU.stays hb)) k x hx
      have cP := HP.out wr vs x hb (List.mem_of_getElem? hx) hN
      obtain ⟨e0, e1, e2, a1, n1, c1, a2, n2, c2, a3, n3, c3, e6, e7, e8, rfl⟩ := hN.shape
      have HC := hide hx; clear hx
      have f0 := hcell 0 _ rfl; have f1 := hcell 1 _ rfl; have f2 := hcell 2 _ rfl; have f3 := hcell 3 _ rfl; have f4 := hcell 4 _ rfl; have f5 := hcell 5 _ rfl; have f6 := hcell 6 _ rfl; have f7 := hcell 7 _ rfl; have f8 := hcell 8 _ rfl
      simp only [Nat.add_zero, Nat.mul_one] at f0
      clear hcell hN
      rcases Bool.eq_false_or_eq_true (p x) with hpc | hpc
      · rw [hpc] at cP
        have HF := hide (hrel.out.found HC.out hpc)
        have cP' := hide cP; clear cP hpc
        go_wp2_with (go_at_fn g; refine (Hid.out cP').mono ?_; rintro e w1 ⟨rfl, hb1⟩)
        go_ret
        exact ⟨ret_int HF.out, hb.trans (hb1.mono hb.size)⟩
      · rw [hpc] at cP
        have HF := hide (hrel.out.next HC.out hpc)
        have cP' := hide cP; clear cP hpc
        go_wp2_with (go_at_fn g; refine (Hid.out cP').mono ?_; rintro e w1 ⟨rfl, hb1⟩)
        go_roundw
        case rel => exact ⟨k + 1, by go_num, by omega, hb.trans (hb1.mono hb.size), HF⟩
        case measure => simp [intOf]; omega
    · have HF := hide (hrel.out.end_ (by have := HN.out; omega))
      go_wp2
      go_ret
      exact ⟨ret_int HF.out, hb⟩
set_option maxHeartbeats 400000 in
theorem containsFuncN (dn : Nat) (g : Nat) (lb : Array Value) (eg : ∀ args w, (callFunc g args).run Tryz.prog w = .ok (.enter g args) w) (U : World → Nat → Prop) (hU : Lasts U) (p : NT dn → Bool) (l : List (NT dn)) (a : Option Addr) (cap : Nat) (w : World) (hp : PredA Tryz.prog g lb (NodeR dn) U p l w) (h : AtR (NodeR dn) 9 U w a l) (hlen : l.length ≤ 1048576) :
    Calls Tryz.prog 50 #[.slice a l.length cap, .func (.func g) #[] lb] w fun e w' => e = .returned (.bool (l.any p)) ∧ Below w.heap.size w w' := by
  have hc := hide (indexFuncN dn g lb eg U hU p l a cap w hp h hlen)
  have hA := idxP_any p l
  generalize idxP p l = I at hA hc
  have HA := hide hA
  clear h hp hA
  go_enter Tryz.func50, Tryz.ntmps50
  go_wp2_with (go_at_call 62; refine (Hid.out hc).mono ?_; rintro e w1 ⟨rfl, hb1⟩)
  go_ret
  exact ⟨ret_bool HA.out, hb1⟩

set_option maxHeartbeats 1000000 in
set_option maxRecDepth 100000 in
theorem indexFuncC (g : Nat) (lb : Array Value) (eg : ∀ args w, (callFunc g args).run Tryz.prog w = .ok (.enter g args) w) (U : World → Nat → Prop) (hU : Lasts U) (p : CallD → Bool) (l : List CallD) (a : Option Addr) (cap : Nat) (w : World) (hp : PredA Tryz.prog g lb CallR U p l w) (h : AtR CallR 2 U w a l) (hlen : l.length ≤ 1048576) :
    Calls Tryz.prog 34 #[.slice a l.length cap, .func (.func g) #[] lb] w fun e w' => e = .returned (.int .i64 (idxP p l)) ∧ Below w.heap.size w w' := by
  obtain ⟨n, hn⟩ : ∃ n, l.length = n := ⟨_, rfl⟩
  rw [hn] at hlen ⊢
  have HP := hide hp; have HR := hide h; have HN := hide hn
  clear hp h hn
  go_enter Tryz.func34, Tryz.ntmps34
  go_wp2
  go_loopw [8] (fun i wr => ∃ k : Nat, i = .int .i64 (k : Int) ∧ k ≤ n ∧ Below w.heap.size w wr ∧ Hid (NoneToP p l k)) (fun i _ => n - (intOf i).toNat)
  case atStart => exact ⟨0, rfl, Nat.zero_le _, Below.refl _ _, fun j c hj _ => by omega⟩
  case round =>
    obtain ⟨k, rfl, hk, hb, hrel⟩ := hrel
    by_cases hlt : k < n
    · obtain ⟨x, hx⟩ : ∃ x, l[k]? = some x := ⟨_, List.getElem?_eq_getElem (by have := HN.out; omega)⟩
      obtain ⟨gg, o, vs, rfl, hg, _, _, hcell, hN⟩ := (HR.out.on CallR.steady (hU.stays hb)) k x hx
      have cP := HP.out wr vs x hb (List.mem_of_getElem? hx) hN
      obtain ⟨aa, ac, rfl, haa⟩ := id hN
      have HC := hide hx; clear hx
      have f0 := hcell 0 _ rfl; have f1 := hcell 1 _ rfl
      simp only [Nat.add_zero, Nat.mul_one] at f0
      clear hcell hN
      rcases Bool.eq_false_or_eq_true (p x) with hpc | hpc
      · rw [hpc] at cP
        have HF := hide (hrel.out.found HC.out hpc)
        have cP' := hide cP; clear cP hpc
        go_wp2_with (go_at_fn g; refine (Hid.out cP').mono ?_; rintro e w1 ⟨rfl, hb1⟩)
        go_ret
        exact ⟨ret_int HF.out, hb.trans (hb1.mono hb.size)⟩
      · rw [hpc] at cP
        have HF := hide (hrel.out.next HC.out hpc)
        have cP' := hide cP; clear cP hpc
        go_wp2_with (go_at_fn g; refine (Hid.out cP').mono ?_; rintro e w1 ⟨rfl, hb1⟩)
        go_roundw
        case rel => exact ⟨k + 1, by go_num, by omega, hb.trans (hb1.mono hb.size), HF⟩
        case measure => simp [intOf]; omega
    · have HF := hide (hrel.out.end_ (by have := HN.out; omega))
      go_wp2
      go_ret
      exact ⟨ret_int HF.out, hb⟩
set_option maxHeartbeats 400000 in
theorem containsFuncC (g : Nat) (lb : Array Value) (eg : ∀ args w, (callFunc g args).run Tryz.prog w = .ok (.enter g args) w) (U : World → Nat → Prop) (hU : Lasts U) (p : CallD → Bool) (l : List CallD) (a : Option Addr) (cap : Nat) (w : World) (hp : PredA Tryz.prog g lb CallR U p l w) (h : AtR CallR 2 U w a l) (hlen : l.length ≤ 1048576) :
    Calls Tryz.prog 20 #[.slice a l.length cap, .func (.func g) #[] lb] w fun e w' => e = .returned (.bool (l.any p)) ∧ Below w.heap.size w w' := by
  have hc := hide (indexFuncC g lb eg U hU p l a cap w hp h hlen)
  have hA := idxP_any p l
  generalize idxP p l = I at hA hc
  have HA := hide hA
  clear h hp hA
  go_enter Tryz.func20, Tryz.ntmps20
  go_wp2_with (go_at_call 34; refine (Hid.out hc).mono ?_; rintro e w1 ⟨rfl, hb1⟩)
  go_ret
  exact ⟨ret_bool HA.out, hb1⟩

set_option maxHeartbeats 1000000 in
set_option maxRecDepth 100000 in
theorem indexFuncA (g : Nat) (lb : Array Value) (eg : ∀ args w, (callFunc g args).run Tryz.prog w = .ok (.enter g args) w) (U : World → Nat → Prop) (hU : Lasts U) (p : ArgD → Bool) (l : List ArgD) (a : Option Addr) (cap : Nat) (w : World) (hp : PredA Tryz.prog g lb ArgR U p l w) (h : AtR ArgR 5 U w a l) (hlen : l.length ≤ 1048576) :
    Calls Tryz.prog 35 #[.slice a l.length cap, .func (.func g) #[] lb] w fun e w' => e = .returned (.int .i64 (idxP p l)) ∧ Below w.heap.size w w' := by
  obtain ⟨n, hn⟩ : ∃ n, l.length = n := ⟨_, rfl⟩
  rw [hn] at hlen ⊢
  have HP := hide hp; have HR := hide h; have HN := hide hn
  clear hp h hn
  go_enter Tryz.func35, Tryz.ntmps35
  go_wp2
  go_loopw [8] (fun i wr => ∃ k : Nat, i = .int .i64 (k : Int) ∧ k ≤ n ∧ Below w.heap.size w wr ∧ Hid (NoneToP p l k)) (fun i _ => n - (intOf i).toNat)
  case atStart => exact ⟨0, rfl, Nat.zero_le _, Below.refl _ _, fun j c hj _ => by omega⟩
  case round =>
    obtain ⟨k, rfl, hk, hb, hrel⟩ := hrel
    by_cases hlt : k < n
    · obtain ⟨x, hx⟩ : ∃ x, l[k]? = some x := ⟨_, List.getElem?_eq_getElem (by have := HN.out; omega)⟩
      obtain ⟨gg, o, vs, rfl, hg, _, _, hcell, hN⟩ := (HR.out.on ArgR.steady (hU.stays hb)) k x hx
      have cP := HP.out wr vs x hb (List.mem_of_getElem? hx) hN
      obtain ⟨aa, ac, rfl, haa⟩ := id hN
      have HC := hide hx; clear hx
      have f0 := hcell 0 _ rfl; have f1 := hcell 1 _ rfl; have f2 := hcell 2 _ rfl; have f3 := hcell 3 _ rfl; have f4 := hcell 4 _ rfl
      simp only [Nat.add_zero, Nat.mul_one] at f0
      clear hcell hN
      rcases Bool.eq_false_or_eq_true (p x) with hpc | hpc
      · rw [hpc] at cP
        have HF := hide (hrel.out.found HC.out hpc)
        have cP' := hide cP; clear cP hpc
        go_wp2_with (go_at_fn g; refine (Hid.out cP').mono ?_; rintro e w1 ⟨rfl, hb1⟩)
        go_ret
        exact ⟨ret_int HF.out, hb.trans (hb1.mono hb.size)⟩
      · rw [hpc] at cP
        have HF := hide (hrel.out.next HC.out hpc)
        have cP' := hide cP; clear cP hpc
        go_wp2_with (go_at_fn g; refine (Hid.out cP').mono ?_; rintro e w1 ⟨rfl, hb1⟩)
        go_roundw
        case rel => exact ⟨k + 1, by go_num, by omega, hb.trans (hb1.mono hb.size), HF⟩
        case measure => simp [intOf]; omega
    · have HF := hide (hrel.out.end_ (by have := HN.out; omega))
      go_wp2
      go_ret
      exact ⟨ret_int HF.out, hb⟩
set_option maxHeartbeats 400000 in
theorem containsFuncA (g : Nat) (lb : Array Value) (eg : ∀ args w, (callFunc g args).run Tryz.prog w = .ok (.enter g args) w) (U : World → Nat → Prop) (hU : Lasts U) (p : ArgD → Bool) (l : List ArgD) (a : Option Addr) (cap : Nat) (w : World) (hp : PredA Tryz.prog g lb ArgR U p l w) (h : AtR ArgR 5 U w a l) (hlen : l.length ≤ 1048576) :
    Calls Tryz.prog 22 #[.slice a l.length cap, .func (.func g) #[] lb] w fun e w' => e = .returned (.bool (l.any p)) ∧ Below w.heap.size w w' := by
  have hc := hide (indexFuncA g lb eg U hU p l a cap w hp h hlen)
  have hA := idxP_any p l
  generalize idxP p l = I at hA hc
  have HA := hide hA
  clear h hp hA
  go_enter Tryz.func22, Tryz.ntmps22
  go_wp2_with (go_at_call 35; refine (Hid.out hc).mono ?_; rintro e w1 ⟨rfl, hb1⟩)
  go_ret
  exact ⟨ret_bool HA.out, hb1⟩

set_option maxHeartbeats 1000000 in
set_option maxRecDepth 100000 in
theorem indexFuncS (g : Nat) (lb : Array Value) (eg : ∀ args w, (callFunc g args).run Tryz.prog w = .ok (.enter g args) w) (U : World → Nat → Prop) (hU : Lasts U) (p : List UInt8 → Bool) (l : List (List UInt8)) (a : Option Addr) (cap : Nat) (w : World) (hp : PredA Tryz.prog g lb StrR U p l w) (h : AtR StrR 1 U w a l) (hlen : l.length ≤ 1048576) :
    Calls Tryz.prog 149 #[.slice a l.length cap, .func (.func g) #[] lb] w fun e w' => e = .returned (.int .i64 (idxP p l)) ∧ Below w.heap.size w w' := by
  obtain ⟨n, hn⟩ : ∃ n, l.length = n := ⟨_, rfl⟩
  rw [hn] at hlen ⊢
  have HP := hide hp; have HR := hide h; have HN := hide hn
  clear hp h hn
  go_enter Tryz.func149, Tryz.ntmps149
  go_wp2
  go_loopw [8] (fun i wr => ∃ k : Nat, i = .int .i64 (k : Int) ∧ k ≤ n ∧ Below w.heap.size w wr ∧ Hid (NoneToP p l k)) (fun i _ => n - (intOf i).toNat)
  case atStart => exact ⟨0, rfl, Nat.zero_le _, Below.refl _ _, fun j c hj _ => by omega⟩
  case round =>
    obtain ⟨k, rfl, hk, hb, hrel⟩ := hrel
    by_cases hlt : k < n
    · obtain ⟨x, hx⟩ : ∃ x, l[k]? = some x := ⟨_, List.getElem?_eq_getElem (by have := HN.out; omega)⟩
      obtain ⟨gg, o, vs, rfl, hg, _, _, hcell, hN⟩ := (HR.out.on StrR.steady (hU.stays hb)) k x hx
      have cP := HP.out wr vs x hb (List.mem_of_getElem? hx) hN
      obtain rfl := (id hN : vs = _)
      have HC := hide hx; clear hx
      have f0 := hcell 0 _ rfl
      simp only [Nat.add_zero, Nat.mul_one] at f0
      clear hcell hN
      rcases Bool.eq_false_or_eq_true (p x) with hpc | hpc
      · rw [hpc] at cP
        have HF := hide (hrel.out.found HC.out hpc)
        have cP' := hide cP; clear cP hpc
        go_wp2_with (go_at_fn g; refine (Hid.out cP').mono ?_; rintro e w1 ⟨rfl, hb1⟩)
        go_ret
        exact ⟨ret_int HF.out, hb.trans (hb1.mono hb.size)⟩
      · rw [hpc] at cP
        have HF := hide (hrel.out.next HC.out hpc)
        have cP' := hide cP; clear cP hpc
        go_wp2_with (go_at_fn g; refine (Hid.out cP').mono ?_; rintro e w1 ⟨rfl, hb1⟩)
        go_roundw
        case rel => exact ⟨k + 1, by go_num, by omega, hb.trans (hb1.mono hb.size), HF⟩
        case measure => simp [intOf]; omega
    · have HF := hide (hrel.out.end_ (by have := HN.out; omega))
      go_wp2
      go_ret
      exact ⟨ret_int HF.out, hb⟩
set_option maxHeartbeats 400000 in
theorem containsFuncS (g : Nat) (lb : Array Value) (eg : ∀ args w, (callFunc g args).run Tryz.prog w = .ok (.enter g args) w) (U : World → Nat → Prop) (hU : Lasts U) (p : List UInt8 → Bool) (l : List (List UInt8)) (a : Option Addr) (cap : Nat) (w : World) (hp : PredA Tryz.prog g lb StrR U p l w) (h : AtR StrR 1 U w a l) (hlen : l.length ≤ 1048576) :
    Calls Tryz.prog 119 #[.slice a l.length cap, .func (.func g) #[] lb] w fun e w' => e = .returned (.bool (l.any p)) ∧ Below w.heap.size w w' := by
  have hc := hide (indexFuncS g lb eg U hU p l a cap w hp h hlen)
  have hA := idxP_any p l
  generalize idxP p l = I at hA hc
  have HA := hide hA
  clear h hp hA
  go_enter Tryz.func119, Tryz.ntmps119
  go_wp2_with (go_at_call 149; refine (Hid.out hc).mono ?_; rintro e w1 ⟨rfl, hb1⟩)
  go_ret
  exact ⟨ret_bool HA.out, hb1⟩
end Go.Proofs.YtnepogddjinpoaaGreatDoor
