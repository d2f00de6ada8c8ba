/-
  values.Print of any value: the kinds without parts.
-/
import Derived.Test.YtdnmgpidfjkiaaaVPrint
namespace Go.Proofs.Ytdnmgpidfjkiaaa
open Go.RowKit
set_option linter.unusedVariables false
set_option linter.unusedSimpArgs false

set_option maxHeartbeats 400000 in
set_option maxRecDepth 100000 in
theorem print_low (k i : Int) (s : ByteArray) (a b : Option Addr) (m c p e : Nat) (t : List UInt8) (w : World) (h : (k = 0 ∧ t = [110, 117, 108, 108]) ∨ (k = 1 ∧ t = [102, 97, 108, 115, 101]) ∨ (k = 2 ∧ t = [116, 114, 117, 101])) :
    Calls Try.prog 32 #[valV k i s a m c b p e] w fun e w' => e = .returned (.string ⟨t.toArray⟩) ∧ Below w.heap.size w w' := by
  rcases h with ⟨rfl, rfl⟩ | ⟨rfl, rfl⟩ | ⟨rfl, rfl⟩
  all_goals
    go_enter Try.func32, Try.ntmps32
    go_wp2_with fail
    go_ret
    exact ⟨rfl, (((Below.refl _ _).alloc (Nat.le_refl _) _).alloc (by simp) _).alloc (by simp; omega) _⟩
set_option maxHeartbeats 1000000 in
set_option maxRecDepth 100000 in
theorem print_three (i : Int) (s : ByteArray) (a b : Option Addr) (m c p e : Nat) (w : World) (lo : -9223372036854775808 ≤ i) (hi : i ≤ 9223372036854775807) :
    Calls Try.prog 32 #[valV 3 i s a m c b p e] w fun e w' => e = .returned (.string ⟨(pInt i).toArray⟩) ∧ Below w.heap.size w w' := by
  have cI := hide (fun w => print_any i w lo hi)
  go_enter Try.func32, Try.ntmps32
  go_wp2_with (go_at_call 45; refine (cI.out _).mono ?_; rintro e w1 ⟨rfl, hb⟩)
  go_ret
  exact ⟨rfl, (((Below.refl _ _).alloc (Nat.le_refl _) _).alloc (by simp) _).trans (hb.mono (by simp; omega))⟩
set_option maxHeartbeats 1000000 in
set_option maxRecDepth 100000 in
theorem print_else (k i : Int) (s : ByteArray) (a b : Option Addr) (m c p e : Nat) (w : World) (h : k < 0 ∨ k = 4 ∨ 7 ≤ k) :
    Calls Try.prog 32 #[valV k i s a m c b p e] w fun e w' => e = .returned (.string s) ∧ Below w.heap.size w w' := by
  have h0 : (k == 0) = false := by rw [beq_eq_false_iff_ne]; omega
  have h1 : (k == 1) = false := by rw [beq_eq_false_iff_ne]; omega
  have h2 : (k == 2) = false := by rw [beq_eq_false_iff_ne]; omega
  have h3 : (k == 3) = false := by rw [beq_eq_false_iff_ne]; omega
  have h5 : (k == 5) = false := by rw [beq_eq_false_iff_ne]; omega
  have h6 : (k == 6) = false := by rw [beq_eq_false_iff_ne]; omega
  clear h
  go_enter Try.func32, Try.ntmps32
  go_wp2_with fail
  go_ret
  exact ⟨rfl, ((Below.refl _ _).alloc (Nat.le_refl _) _).alloc (by simp) _⟩
theorem pInt_le21 (n : Int) (h0 : -9223372036854775808 ≤ n) (h1 : n ≤ 9223372036854775807) : (pInt n).length ≤ 21 := by
  unfold pInt
  have := (decs_len20 n.natAbs (by omega)).1
  split
  · simp; omega
  · omega
theorem sumBy_mul {α : Type} (f : α → Nat) (c : Nat) : ∀ l : List α, sumBy (fun x => c * f x) l = c * sumBy f l := by
  intro l
  induction l with
  | nil => simp [sumBy]
  | cons x l ih => simp only [sumBy, ih, Nat.mul_add]
theorem sumBy_addc {α : Type} (f : α → Nat) (c : Nat) : ∀ l : List α, sumBy (fun x => f x + c) l = sumBy f l + c * l.length := by
  intro l
  induction l with
  | nil => simp [sumBy]
  | cons x l ih => simp only [sumBy, ih, List.length_cons, Nat.mul_succ]; omega
theorem body_len (f : Nat → List UInt8) (g : Nat → Nat) (hf : ∀ j, (f j).length ≤ g j) : ∀ (l : List (List UInt8)) (j : Nat), (bodyFrom f j l).length ≤ sumBy (fun p => p.length + 1) l + sumBy (fun r => g r) (List.range' j l.length) := by
  intro l
  induction l with
  | nil => intro j; simp [bodyFrom, sumBy]
  | cons p l ih =>
    intro j
    have h1 := ih (j + 1)
    have h2 := hf j
    simp only [bodyFrom, List.length_append, sumBy, List.length_cons, List.range'_succ]
    have h3 : (if j = 0 then ([] : List UInt8) else [32]).length ≤ 1 := by split <;> simp
    omega
theorem keys_sum (ks : List (List UInt8)) : ∀ (m j : Nat), sumBy (fun r => (keyAhead ks r).length) (List.range' j m) ≤ m + sumBy (fun k => k.length + 1) (ks.drop j) := by
  intro m
  induction m with
  | zero => intro j; simp [sumBy]
  | succ m ih =>
    intro j
    have h1 := ih (j + 1)
    rw [List.range'_succ]
    simp only [sumBy]
    rcases Nat.lt_or_ge j ks.length with h | h
    · rw [List.drop_eq_getElem_cons h]
      simp only [sumBy]
      have : (keyAhead ks j).length = (ks[j]'h).length + 1 := by unfold keyAhead; rw [List.getElem?_eq_getElem h]; simp
      omega
    · have : (keyAhead ks j).length = 1 := by unfold keyAhead; rw [List.getElem?_eq_none h]; simp
      rw [List.drop_of_length_le (by omega)] at h1 ⊢
      omega
theorem const_sum (c : Nat) : ∀ (m j : Nat), sumBy (fun _ => c) (List.range' j m) = c * m := by
  intro m
  induction m with
  | zero => intro j; simp [sumBy]
  | succ m ih => intro j; rw [List.range'_succ]; simp only [sumBy, ih, Nat.mul_succ]; omega
theorem sum_len {α : Type} (f : α → Nat) : ∀ l : List α, sumBy (fun x => f x + 1) l = sumBy f l + l.length := by
  intro l
  induction l with
  | nil => rfl
  | cons x l ih => simp only [sumBy, ih, List.length_cons]; omega
theorem print_len : ∀ (n : Nat) (d : VT n), NumV n d → (printV n d).length + 4 ≤ 25 * massV n d := by
  intro n
  induction n with
  | zero => intro d _; show 0 + 4 ≤ 25 * 1; omega
  | succ n ih =>
    intro d hn
    obtain ⟨k, i, s, l, ks⟩ := d
    obtain ⟨hi, hl⟩ := hn
    have hl : ∀ x ∈ l, NumV n x := hl
    rw [printV_mk, massV_succ]
    show _ ≤ 25 * (1 + s.length + sumBy (fun k => k.length + 1) ks + sumBy (massV n) l)
    have hsum : sumBy (fun x => (printV n x).length + 4) l ≤ sumBy (fun x => 25 * massV n x) l := sumBy_le l fun x hx => ih x (hl x hx)
    have hmul := sumBy_mul (massV n) 25 l
    have hB : ∀ (f : Nat → List UInt8) (c : Nat), sumBy (fun r => (f r).length) (List.range' 0 l.length) ≤ l.length + c → (bodyFrom f 0 (l.map (printV n))).length + 2 * l.length ≤ 25 * sumBy (massV n) l + c := by
      intro f c hc
      have h1 := body_len f (fun r => (f r).length) (fun j => Nat.le_refl _) (l.map (printV n)) 0
      rw [List.length_map, sumBy_map] at h1
      have h2 := sumBy_addc (fun x => (printV n x).length) 4 l
      have h3 := sumBy_addc (fun x => (printV n x).length) 1 l
      omega
    split
    · simp; omega
    split
    · simp; omega
    split
    · simp; omega
    split
    · have := pInt_le21 i hi.1 hi.2; omega
    split
    · have := hB (fun _ => []) 0 (by simp only [List.length_nil]; rw [const_sum]; omega)
      simp only [List.length_append, List.length_singleton]
      omega
    split
    · have := hB (keyAhead ks) (sumBy (fun k => k.length + 1) ks) (by have := keys_sum ks l.length 0; simpa using this)
      simp only [List.length_append, List.length_singleton]
      omega
    · omega
theorem valPrint_any : ∀ (n : Nat) (U : World → Nat → Prop) (hU : ∀ w w' b, Below w.heap.size w w' → b < w.heap.size → U w b → U w' b) (v : Value) (d : VT n) (w : World), IsV U w n v d → SmallV n d → NumV n d → massV n d ≤ 5000000000000 →
    Calls Try.prog 32 #[v] w fun e w' => e = .returned (.string ⟨(printV n d).toArray⟩) ∧ Below w.heap.size w w' := by
  intro n
  induction n with
  | zero => intro U _ v d w h; exact h.elim
  | succ n ih =>
    intro U hU v d w h hsm hnm hms
    have hpl := print_len (n + 1) d hnm
    obtain ⟨k, i, s, l, ks⟩ := d
    obtain ⟨a, c, b, e, rfl, hS, hL⟩ := h.parts
    obtain ⟨_, hz2, hz3, hz4, hz5⟩ := hsm
    obtain ⟨hi, hn5⟩ := hnm
    have hz5 : ∀ x ∈ l, SmallV n x := hz5
    have hn5 : ∀ x ∈ l, NumV n x := hn5
    have hms2 : 1 + s.length + sumBy (fun k => k.length + 1) ks + sumBy (massV n) l ≤ 5000000000000 := hms
    have hP : ∀ (v : Value) (x : VT n) (W : World), x ∈ l → IsV U W n v x → Calls Try.prog 32 #[v] W fun e w' => e = .returned (.string ⟨(printV n x).toArray⟩) ∧ Below W.heap.size W w' :=
      fun v x W hx hv => ih U hU v x W hv (hz5 x hx) (hn5 x hx) (by have := sumBy_mem (massV n) l x hx; omega)
    rw [printV_mk] at hpl ⊢
    by_cases h0 : k = 0
    · rw [if_pos h0]; exact print_low _ _ _ _ _ _ _ _ _ _ _ (.inl ⟨h0, rfl⟩)
    rw [if_neg h0] at hpl ⊢
    by_cases h1 : k = 1
    · rw [if_pos h1]; exact print_low _ _ _ _ _ _ _ _ _ _ _ (.inr (.inl ⟨h1, rfl⟩))
    rw [if_neg h1] at hpl ⊢
    by_cases h2 : k = 2
    · rw [if_pos h2]; exact print_low _ _ _ _ _ _ _ _ _ _ _ (.inr (.inr ⟨h2, rfl⟩))
    rw [if_neg h2] at hpl ⊢
    by_cases h3 : k = 3
    · rw [if_pos h3]; subst h3; exact print_three i _ _ _ _ _ _ _ _ hi.1 hi.2
    rw [if_neg h3] at hpl ⊢
    by_cases h5 : k = 5
    · rw [if_pos h5] at hpl ⊢
      subst h5
      exact print_k5 U hU i s l ks a b c e w hS hL hz2 hz4 (by simp only [List.length_append, List.length_singleton] at hpl; omega) hP
    rw [if_neg h5] at hpl ⊢
    by_cases h6 : k = 6
    · rw [if_pos h6] at hpl ⊢
      subst h6
      exact print_k6 U hU i s l ks a b c e w hS hL hz2 hz4 (by simp only [List.length_append, List.length_singleton] at hpl; omega) hP
    rw [if_neg h6]
    exact print_else k i _ _ _ _ _ _ _ _ (by omega)
end Go.Proofs.Ytdnmgpidfjkiaaa
