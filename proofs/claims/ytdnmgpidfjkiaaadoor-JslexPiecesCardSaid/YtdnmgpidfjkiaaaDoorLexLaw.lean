/-
  PLAIN LAWS: pieces stand one behind the other.
-/
import Derived.Test.YtdnmgpidfjkiaaaDoorLexSpec
namespace Go.Proofs.YtdnmgpidfjkiaaaDoor
set_option linter.unusedVariables false

def endA (P : List Pc) : Nat := match P.getLast? with | none => 0 | some q => q.p + q.t.length
def Blanks (s : List UInt8) (a b : Nat) : Prop := ∀ j, a ≤ j → j < b → ∃ c, s[j]? = some c ∧ isBlank c = true
structure GoodAt (s : List UInt8) (a : Nat) (q : Pc) : Prop where
  le : a ≤ q.p
  blanks : Blanks s a q.p
  some_ : q.t ≠ []
  fits : q.p + q.t.length ≤ s.length
  same : (s.take (q.p + q.t.length)).drop q.p = q.t
  kind : 1 ≤ q.k ∧ q.k ≤ 5
structure Cut (s : List UInt8) (a : Nat) (P : List Pc) : Prop where
  le : a ≤ s.length
  ends : endA P ≤ a
  blanks : Blanks s (endA P) a
  each : ∀ i q, P[i]? = some q → GoodAt s (endA (P.take i)) q
theorem endA_snoc (P : List Pc) (q : Pc) : endA (P ++ [q]) = q.p + q.t.length := by simp [endA]
theorem some_lt {s : List UInt8} {a : Nat} {c : UInt8} (hc : s[a]? = some c) : a < s.length := by
  rcases Nat.lt_or_ge a s.length with h | h
  · exact h
  · rw [List.getElem?_eq_none h] at hc; cases hc
theorem came_cut {s : List UInt8} {a : Nat} {P : List Pc} (h : Came s a P) : Cut s a P := by
  refine h (Cut s) ⟨Nat.zero_le _, Nat.le_refl _, fun j h1 h2 => by omega, fun i q h => by simp at h⟩ ?_ ?_
  · intro a P c h hc hb
    refine ⟨some_lt hc, by have := h.ends; omega, fun j h1 h2 => ?_, h.each⟩
    rcases Nat.lt_or_ge j a with h3 | h3
    · exact h.blanks j h1 h3
    · obtain rfl : j = a := by omega
      exact ⟨c, hc, hb⟩
  · intro a P c k to h hc hb ho hn
    have hr := oneR_range hc ho
    have hlt := some_lt hc
    have hto : a < to ∧ to ≤ s.length := by omega
    have hl : ((s.take to).drop a).length = to - a := by simp; omega
    have he : endA (P ++ [⟨k, (s.take to).drop a, a⟩]) = to := by rw [endA_snoc]; simp only [hl]; omega
    refine ⟨hto.2, by omega, fun j h1 h2 => by omega, fun i q hq => ?_⟩
    rcases Nat.lt_or_ge i P.length with h3 | h3
    · rw [List.getElem?_append_left h3] at hq
      rw [List.take_append_of_le_length (by omega)]
      exact h.each i q hq
    · rw [List.getElem?_append_right h3] at hq
      obtain h4 : i = P.length := by
        rcases Nat.lt_or_ge (i - P.length) 1 with h5 | h5
        · omega
        · rw [List.getElem?_eq_none (by simpa using h5)] at hq; cases hq
      subst h4
      simp at hq
      subst hq
      rw [List.take_left]
      exact ⟨h.ends, h.blanks, by intro e; have := congrArg List.length e; simp only [hl] at this; simp at this; omega, by simp only [hl]; omega, by simp only [hl]; rw [show a + (to - a) = to by omega], hr.1⟩
theorem told_cut {s : List UInt8} {P : List Pc} {n e : Int} (h : Told s P n e) (hl : s.length ≤ 65536) (he : e = 0) : n = s.length ∧ Cut s s.length P := by
  rcases h with ⟨h, _⟩ | ⟨_, hC, rfl, _⟩ | ⟨_, _, a, c, R, k, to, _, _, _, _, _, h⟩
  · omega
  · exact ⟨rfl, came_cut hC⟩
  · omega
theorem told_bad {s : List UInt8} {P : List Pc} {n e : Int} (h : Told s P n e) (hl : s.length ≤ 65536) (he : e ≠ 0) : P = [] ∧ 0 ≤ n ∧ n < s.length ∧ (e = 33 ∨ e = 3) := by
  rcases h with ⟨h, _⟩ | ⟨_, hC, rfl, h⟩ | ⟨_, hP, a, c, R, k, to, _, hc, _, _, rfl, h⟩
  · omega
  · exact absurd h he
  · have := some_lt hc
    exact ⟨hP, by omega, by omega, by omega⟩
/-- The example: 'a / b'. -/
theorem told_alive {P : List Pc} {n e : Int} (h : Told [97, 32, 47, 32, 98] P n e) : n = 5 ∧ e = 0 ∧ P = [⟨1, [97], 0⟩, ⟨5, [47], 2⟩, ⟨1, [98], 4⟩] := by
  let Q : Nat → List Pc → Prop := fun a P => (a = 0 ∧ P = []) ∨ (a = 1 ∧ P = [⟨1, [97], 0⟩]) ∨ (a = 2 ∧ P = [⟨1, [97], 0⟩]) ∨ (a = 3 ∧ P = [⟨1, [97], 0⟩, ⟨5, [47], 2⟩]) ∨ (a = 4 ∧ P = [⟨1, [97], 0⟩, ⟨5, [47], 2⟩]) ∨ (a = 5 ∧ P = [⟨1, [97], 0⟩, ⟨5, [47], 2⟩, ⟨1, [98], 4⟩])
  have hQ : ∀ a P, Came [97, 32, 47, 32, 98] a P → Q a P := by
    intro a P h
    refine h Q (.inl ⟨rfl, rfl⟩) ?_ ?_
    · intro a P c hq hc hb
      rcases hq with ⟨rfl, rfl⟩ | ⟨rfl, rfl⟩ | ⟨rfl, rfl⟩ | ⟨rfl, rfl⟩ | ⟨rfl, rfl⟩ | ⟨rfl, rfl⟩ <;> simp at hc <;> (try subst hc) <;> (try (exact absurd hb (by decide)))
      · exact .inr (.inr (.inl ⟨rfl, rfl⟩))
      · exact .inr (.inr (.inr (.inr (.inl ⟨rfl, rfl⟩))))
    · intro a P c k to hq hc hb ho hn
      rcases hq with ⟨rfl, rfl⟩ | ⟨rfl, rfl⟩ | ⟨rfl, rfl⟩ | ⟨rfl, rfl⟩ | ⟨rfl, rfl⟩ | ⟨rfl, rfl⟩ <;> simp at hc <;> (try subst hc) <;> (try (exact absurd hb (by decide)))
      · have : wordE [97, 32, 47, 32, 98] 0 = 1 := by decide
        simp only [oneR, show wordyB 97 = true by decide, if_true, this] at ho
        obtain ⟨rfl, h2⟩ := ho
        obtain rfl : to = 1 := by omega
        exact .inr (.inl ⟨rfl, rfl⟩)
      · have hf : freshB [⟨1, [97], 0⟩] = false := by decide
        have hp : (Lib.hasPrefix (List.drop 2 [97, 32, 47, 32, 98]) [47, 47] || Lib.hasPrefix (List.drop 2 [97, 32, 47, 32, 98]) [47, 42]) = false := by decide
        have : oneR [97, 32, 47, 32, 98] [⟨1, [97], 0⟩] 2 47 k to = (k = 5 ∧ (to : Int) = ((2 : Nat) : Int) + 1) := by
          unfold oneR
          rw [hf, hp]
          rfl
        rw [this] at ho
        obtain ⟨rfl, h2⟩ := ho
        obtain rfl : to = 3 := by omega
        exact .inr (.inr (.inr (.inl ⟨rfl, rfl⟩)))
      · have : wordE [97, 32, 47, 32, 98] 4 = 5 := by decide
        simp only [oneR, show wordyB 98 = true by decide, if_true, this] at ho
        obtain ⟨rfl, h2⟩ := ho
        obtain rfl : to = 5 := by omega
        exact .inr (.inr (.inr (.inr (.inr ⟨rfl, rfl⟩))))
  rcases h with ⟨h, _⟩ | ⟨_, hC, rfl, rfl⟩ | ⟨_, hP, a, c, R, k, to, hC, hc, hb, ho, rfl, h⟩
  · simp at h
  · have := hQ _ _ hC
    simp [Q] at this
    exact ⟨rfl, rfl, this⟩
  · exfalso
    have hr := oneR_range hc ho
    have := hQ _ _ hC
    rcases this with ⟨rfl, rfl⟩ | ⟨rfl, rfl⟩ | ⟨rfl, rfl⟩ | ⟨rfl, rfl⟩ | ⟨rfl, rfl⟩ | ⟨rfl, rfl⟩ <;> simp at hc <;> (try subst hc) <;> (try (exact absurd hb (by decide)))
    · have : wordE [97, 32, 47, 32, 98] 0 = 1 := by decide
      simp only [oneR, show wordyB 97 = true by decide, if_true, this] at ho
      simp at h; omega
    · have hf : freshB [⟨1, [97], 0⟩] = false := by decide
      have hp : (Lib.hasPrefix (List.drop 2 [97, 32, 47, 32, 98]) [47, 47] || Lib.hasPrefix (List.drop 2 [97, 32, 47, 32, 98]) [47, 42]) = false := by decide
      have : oneR [97, 32, 47, 32, 98] [⟨1, [97], 0⟩] 2 47 k to = (k = 5 ∧ (to : Int) = ((2 : Nat) : Int) + 1) := by
        unfold oneR
        rw [hf, hp]
        rfl
      rw [this] at ho
      simp at h; omega
    · have : wordE [97, 32, 47, 32, 98] 4 = 5 := by decide
      simp only [oneR, show wordyB 98 = true by decide, if_true, this] at ho
      simp at h; omega
end Go.Proofs.YtdnmgpidfjkiaaaDoor
