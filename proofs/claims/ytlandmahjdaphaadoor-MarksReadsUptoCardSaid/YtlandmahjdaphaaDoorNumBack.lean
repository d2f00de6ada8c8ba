/-
  PLAIN LAWS: a number comes back from its digits; another text of it is none.
-/
import Derived.Test.YtlandmahjdaphaaDoorParseSpec
namespace Go.Proofs.YtlandmahjdaphaaDoor
set_option linter.unusedVariables false

theorem isDig_dig (n : Nat) (h : n < 10) : isDig (dig n) = true := by
  simp [isDig, dig_toNat n h]; omega
theorem valFrom_decs (u : Nat) : valFrom 0 (decs u) = u := by
  induction u using Nat.strongRecOn with
  | _ u ih =>
    by_cases h : u < 10
    · rw [decs_small u h, valFrom_cons, valFrom_nil, dig_toNat u h]; omega
    · rw [decs_big u h, valFrom_append, ih (u / 10) (by omega), valFrom_cons, valFrom_nil, dig_toNat _ (by omega)]; omega
theorem decs_ne (u : Nat) : decs u ≠ [] := by
  by_cases h : u < 10
  · rw [decs_small u h]; simp
  · rw [decs_big u h]; simp
theorem decs_all (u : Nat) : (decs u).all isDig = true := by
  induction u using Nat.strongRecOn with
  | _ u ih =>
    by_cases h : u < 10
    · rw [decs_small u h]; simp [isDig_dig u h]
    · rw [decs_big u h, List.all_append, ih (u / 10) (by omega)]; simp [isDig_dig (u % 10) (by omega)]
theorem decs_head (u : Nat) (h1 : 1 ≤ u) : (decs u).head? ≠ some 48 := by
  induction u using Nat.strongRecOn with
  | _ u ih =>
    by_cases h : u < 10
    · rw [decs_small u h]
      simp only [List.head?_cons, ne_eq, Option.some.injEq]
      intro e
      have := dig_toNat u h
      rw [e] at this
      have h48 : (48 : UInt8).toNat = 48 := rfl
      omega
    · rw [decs_big u h]
      have := ih (u / 10) (by omega) (by omega)
      cases hd : decs (u / 10) with
      | nil => exact absurd hd (decs_ne _)
      | cons c r => rw [hd] at this; simpa using this
theorem decs_head_dig (u : Nat) : (decs u).head? ≠ some 45 := by
  cases hd : decs u with
  | nil => exact absurd hd (decs_ne _)
  | cons c r =>
    have := decs_all u
    rw [hd] at this
    simp only [List.all_cons, Bool.and_eq_true] at this
    intro e
    simp at e
    subst e
    simp [isDig] at this
/-- The digits of what digits come to, the first one no 0. -/
theorem decs_valFrom (t : List UInt8) : t ≠ [] → t.all isDig = true → (t.head? = some 48 → t.length ≤ 1) → decs (valFrom 0 t) = t := by
  have key : ∀ (n : Nat) (t : List UInt8), t.length = n → t ≠ [] → t.all isDig = true → (t.head? = some 48 → t.length ≤ 1) → decs (valFrom 0 t) = t ∧ (2 ≤ t.length → 1 ≤ valFrom 0 t) ∧ (t.head? ≠ some 48 → 1 ≤ valFrom 0 t) := by
    intro n
    induction n with
    | zero => intro t h h2; exact absurd (List.eq_nil_of_length_eq_zero h) h2
    | succ n ih =>
      intro t hn hne hall hhead
      have e : t = t.dropLast ++ [t.getLast hne] := (List.dropLast_concat_getLast hne).symm
      generalize hc : t.getLast hne = c at e
      generalize hr : t.dropLast = r at e
      have hrl : r.length = n := by rw [← hr, List.length_dropLast]; omega
      clear hc hr
      subst e
      rw [List.all_append] at hall
      simp only [List.all_cons, List.all_nil, Bool.and_true, Bool.and_eq_true] at hall
      obtain ⟨h1, h2⟩ := hall
      have hc1 : 48 ≤ c.toNat ∧ c.toNat ≤ 57 := by simp [isDig] at h2; omega
      have hcd : dig (c.toNat - 48) = c := by
        apply UInt8.toNat_inj.1
        rw [dig_toNat _ (by omega)]; omega
      by_cases hr : r = []
      · subst hr
        rw [List.nil_append, valFrom_cons, valFrom_nil]
        refine ⟨?_, by simp, ?_⟩
        · rw [decs_small _ (by omega), show 0 * 10 + (c.toNat - 48) = c.toNat - 48 by omega, hcd]
        · intro h
          rcases Nat.lt_or_ge 48 c.toNat with h' | h'
          · omega
          · exfalso; apply h
            have : c = 48 := UInt8.toNat_inj.1 (by have h48 : (48 : UInt8).toNat = 48 := rfl; omega)
            rw [this]; rfl
      · have hh : (r ++ [c]).head? = r.head? := by cases r with | nil => exact absurd rfl hr | cons a b => rfl
        have hrne : r.head? ≠ some 48 := by
          intro h
          have := hhead (by rw [hh]; exact h)
          rw [List.length_append, List.length_singleton] at this
          have h2 := List.length_pos_iff.2 hr
          omega
        obtain ⟨i1, i2, i3⟩ := ih r hrl hr h1 (fun h => absurd h hrne)
        have hv := i3 hrne
        rw [valFrom_append, valFrom_cons, valFrom_nil]
        refine ⟨?_, fun _ => by omega, fun _ => by omega⟩
        rw [decs_big _ (by omega), show (valFrom 0 r * 10 + (c.toNat - 48)) / 10 = valFrom 0 r by omega, show (valFrom 0 r * 10 + (c.toNat - 48)) % 10 = c.toNat - 48 by omega, i1, hcd]
  intro h1 h2 h3
  exact (key _ t rfl h1 h2 h3).1

theorem cutDash_no (l : List UInt8) (h : l.head? ≠ some 45) : cutDash l = (l, false) := by
  unfold cutDash
  split
  · simp at h
  · rfl
theorem pParse_pInt (n : Int) (h0 : -9223372036854775808 ≤ n) (h1 : n ≤ 9223372036854775807) : pParse (pInt n) = (n, 0) := by
  unfold pParse pInt
  by_cases hn : n < 0
  · rw [if_pos hn]
    show pParseT (decs n.natAbs) true = _
    unfold pParseT
    rw [if_neg (decs_ne _), if_neg (by simp [decs_all]), if_neg (by intro h; exact decs_head _ (by omega) h.1), if_pos rfl, valFrom_decs, if_pos (by omega)]
    ext <;> simp; omega
  · rw [if_neg hn, cutDash_no _ (decs_head_dig _)]
    unfold pParseT
    have hz : ¬((decs n.natAbs).head? = some 48 ∧ (false = true ∨ 1 < (decs n.natAbs).length)) := by
      rintro ⟨h, h'⟩
      rcases Nat.eq_zero_or_pos n.natAbs with h2 | h2
      · rw [h2, decs_small 0 (by omega)] at h'; simp at h'
      · exact decs_head _ h2 h
    rw [if_neg (decs_ne _), if_neg (by simp [decs_all]), if_neg hz, if_neg (by simp), valFrom_decs, if_pos (by omega)]
    ext <;> simp; omega
theorem cutDash_back (l : List UInt8) : l = if (cutDash l).2 = true then 45 :: (cutDash l).1 else (cutDash l).1 := by
  unfold cutDash
  split
  · simp
  · simp
/-- What is told of a text as a number, and that its digits are the text. -/
theorem pParse_back (l : List UInt8) (h : (pParse l).2 = 0) : pInt (pParse l).1 = l := by
  have hb := cutDash_back l
  unfold pParse at h ⊢
  generalize (cutDash l).1 = t at *
  generalize (cutDash l).2 = b at *
  rw [hb]
  unfold pParseT at h ⊢
  by_cases h1 : t = []
  · rw [if_pos h1] at h; simp at h
  rw [if_neg h1] at h ⊢
  by_cases h2 : t.all isDig = true
  · rw [if_neg (by simp [h2])] at h ⊢
    by_cases h3 : t.head? = some 48 ∧ (b = true ∨ 1 < t.length)
    · rw [if_pos h3] at h; simp at h
    · rw [if_neg h3] at h ⊢
      have hd := decs_valFrom t h1 h2 (fun hh => by
        rcases Nat.lt_or_ge 1 t.length with h' | h'
        · exact absurd ⟨hh, .inr h'⟩ h3
        · omega)
      cases b with
      | true =>
        simp only [if_true] at h ⊢
        split at h
        · rename_i hv
          rw [if_pos hv]
          have hpos : 1 ≤ valFrom 0 t := by
            rcases Nat.eq_zero_or_pos (valFrom 0 t) with h0 | h0
            · rw [h0, decs_small 0 (by omega)] at hd
              exfalso; apply h3
              rw [← hd]
              exact ⟨rfl, .inl rfl⟩
            · exact h0
          unfold pInt
          rw [if_pos (by simp; omega)]
          simp [hd]
        · simp at h
      | false =>
        simp only [Bool.false_eq_true, if_false] at h ⊢
        split at h
        · rename_i hv
          rw [if_pos hv]
          unfold pInt
          rw [if_neg (by simp)]
          simp [hd]
        · simp at h
  · rw [if_pos (by simpa using h2)] at h; simp at h
theorem pParse_range (l : List UInt8) : -9223372036854775808 ≤ (pParse l).1 ∧ (pParse l).1 ≤ 9223372036854775807 ∧ 0 ≤ (pParse l).2 ∧ (pParse l).2 ≤ 255 := by
  unfold pParse pParseT
  repeat' split
  all_goals simp
  all_goals omega
end Go.Proofs.YtlandmahjdaphaaDoor
