/-
  fold.own, the plain part: a call's arguments in a row of their own, their paths cloned one by one.
-/
import Derived.Test.YtnepogddjinpoaaGreatDoorClone
namespace Go.Proofs.YtnepogddjinpoaaGreatDoor
open Go.RowKit
set_option linter.unusedVariables false
set_option linter.unusedSimpArgs false

/-- The arguments' row: the first i have paths of their own, the others share theirs. -/
structure ArgI (base : Nat) (wi : World) (g cap : Nat) (es1 : List (List Value)) (l : List ArgD) (i : Nat) (es : List (List Value)) : Prop where
  own : wi.ownsRow base 35 5 (.slice (some ⟨g, 0, none⟩) es.length cap) es.length es.flatten
  sized : ∀ c ∈ es, c.length = 5
  len : es.length = l.length
  done : ∀ (r : Nat) (c : List Value) (x : ArgD), r < i → es[r]? = some c → l[r]? = some x → ArgR (besideB base (some g)) wi c x
  rest : ∀ r, i ≤ r → es[r]? = es1[r]?
theorem ArgI.chg {S : List Nat} {base : Nat} {wi w' : World} {g cap : Nat} {es1 : List (List Value)} {l : List ArgD} {i : Nat} {es : List (List Value)} (h : ArgI base wi g cap es1 l i es) (c : Chg S wi w') (hS : ∀ x ∈ S, x < base) : ArgI base w' g cap es1 l i es := by
  have hg : base ≤ g := (h.own.lt g rfl).1
  refine ⟨own_chg h.own c (fun k hk hm => ?_), h.sized, h.len, fun r cc x hr hc hx => ?_, h.rest⟩
  · have hk : some g = some k := hk
    injection hk with hk
    have := hS k hm
    omega
  · exact ArgR.steady _ _ wi w' (stays_beside c.size fun b h1 h2 _ => c.block b h1 fun hm => by have := hS b hm; omega) cc x (h.done r cc x hr hc hx)
theorem ArgI.step {base : Nat} {wi wP : World} {g cap : Nat} {es1 : List (List Value)} {l : List ArgD} {i : Nat} {es : List (List Value)} (h : ArgI base wi g cap es1 l i es) {x : ArgD} {a : Option Addr} {c : Nat} (hx : l[i]? = some x) (hc : es1[i]? = some (argCells x.k ⟨x.nm.toArray⟩ a x.path.length c x.i ⟨x.s.toArray⟩))
    (hb : Below wi.heap.size wi wP) {A2 : Option Addr} {m c2 : Nat} {ps : List (List Value)} (hm : m = x.path.length) (hp : RowR StrR 1 wi.heap.size 9 wP (.slice A2 m c2) ps x.path) :
    ArgI base (wP.setCell ⟨g, i * 5 + 2, none⟩ (.slice A2 m c2)) g cap es1 l (i + 1) (es.set i (argCells x.k ⟨x.nm.toArray⟩ A2 x.path.length c2 x.i ⟨x.s.toArray⟩)) := by
  subst hm
  have hg := (h.own.lt g rfl)
  have hei : es[i]? = some (argCells x.k ⟨x.nm.toArray⟩ a x.path.length c x.i ⟨x.s.toArray⟩) := by rw [h.rest i (Nat.le_refl _)]; exact hc
  have hil : i < es.length := (List.getElem?_eq_some_iff.1 hei).1
  have hst : Stays (besideB base (some g)) (besideB base (some g)) wi (wP.setCell ⟨g, i * 5 + 2, none⟩ (.slice A2 x.path.length c2)) := by
    refine stays_beside (by have := hb.size; simpa using this) fun b h1 _ h3 => ?_
    refine (Below.heap_setCell wP ⟨g, i * 5 + 2, none⟩ _ b ?_).trans (hb.block b h1)
    intro e; subst e; exact h3 rfl
  refine ⟨?_, ?_, by simp [h.len], fun r cc y hr hcc hy => ?_, fun r hr => ?_⟩
  · have h1 := (own_chg h.own (Chg.of_below (S := []) hb) (by simp)).stored (i * 5 + 2) (.slice A2 x.path.length c2)
    have h2 := flat_set h.sized i _ 2 (.slice A2 x.path.length c2) hei (by decide)
    rw [h2] at h1
    rw [List.length_set]
    exact h1.1
  · intro d hd
    rcases List.mem_or_eq_of_mem_set hd with hd | hd
    · exact h.sized d hd
    · subst hd; rfl
  · rw [List.getElem?_set] at hcc
    by_cases e : i = r
    · subst e
      simp [hil] at hcc
      rw [hx] at hy
      injection hy with hy
      subst hy; subst hcc
      refine ⟨A2, c2, rfl, ?_⟩
      refine AtR.on StrR.steady (hp.at_ StrR.steady (N := wi.heap.size) rfl (Nat.le_refl _)) ⟨by simp, fun b h1 h2 => ?_⟩
      obtain ⟨h3, cs, t, h4⟩ := h2
      have hne : b ≠ g := by omega
      have h5 := Below.heap_setCell wP ⟨g, i * 5 + 2, none⟩ (.slice A2 x.path.length c2) b hne
      refine ⟨h5, ⟨by omega, cs, t, h5.trans h4⟩, ?_⟩
      intro q; injection q with q; exact hne q
    · simp [e] at hcc
      exact ArgR.steady _ _ wi _ hst cc y (h.done r cc y (by omega) hcc hy)
  · rw [List.getElem?_set]
    have : i ≠ r := by omega
    simp [this]
    exact h.rest r (by omega)
theorem ArgI.row {base : Nat} {wi : World} {g cap : Nat} {es1 : List (List Value)} {l : List ArgD} {es : List (List Value)} (h : ArgI base wi g cap es1 l l.length es) : RowR ArgR 5 base 35 wi (.slice (some ⟨g, 0, none⟩) l.length cap) es l := by
  refine ⟨by rw [← h.len]; exact h.own, h.sized, h.len, fun r c x hc hx => h.done r c x ?_ hc hx⟩
  exact (List.getElem?_eq_some_iff.1 hx).1
/-- The arguments' row, empty or not. -/
def ArgJ (base : Nat) (wi : World) (A1 : Option Addr) (cap : Nat) (es1 : List (List Value)) (l : List ArgD) (i : Nat) : Prop :=
  (l = [] ∧ wi.ownsRow base 35 5 (.slice A1 0 cap) 0 []) ∨ (∃ g es, A1 = some ⟨g, 0, none⟩ ∧ ArgI base wi g cap es1 l i es)
theorem ArgJ.start {base : Nat} {wi : World} {v : Value} {es1 : List (List Value)} {l : List ArgD} (hown : wi.ownsRow base 35 5 v es1.length es1.flatten) (hl : es1.length = l.length) (hs : ∀ c ∈ es1, c.length = 5) : ∃ A1 cap, v = .slice A1 l.length cap ∧ ArgJ base wi A1 cap es1 l 0 := by
  by_cases h0 : l = []
  · subst h0
    have e : es1 = [] := List.eq_nil_of_length_eq_zero hl
    subst e
    obtain ⟨A, c, rfl⟩ := own_sliceV hown
    exact ⟨A, c, rfl, .inl ⟨rfl, hown⟩⟩
  · obtain ⟨g, cap, hv, _, _⟩ := hown.form (by rw [hl]; exact List.length_pos_iff.2 h0)
    subst hv
    rw [hl]
    refine ⟨_, cap, rfl, .inr ⟨g, es1, rfl, hown, hs, hl, fun r c x hr => by omega, fun r _ => rfl⟩⟩
theorem ArgJ.chg {S : List Nat} {base : Nat} {wi w' : World} {A1 : Option Addr} {cap : Nat} {es1 : List (List Value)} {l : List ArgD} {i : Nat} (h : ArgJ base wi A1 cap es1 l i) (c : Chg S wi w') (hS : ∀ x ∈ S, x < base) : ArgJ base w' A1 cap es1 l i := by
  rcases h with ⟨h1, h2⟩ | ⟨g, es, h1, h2⟩
  · exact .inl ⟨h1, own_chg h2 c fun k hk hm => by have := (h2.lt k hk).1; have := hS k hm; omega⟩
  · exact .inr ⟨g, es, h1, h2.chg c hS⟩
theorem ArgJ.row {base : Nat} {wi : World} {A1 : Option Addr} {cap : Nat} {es1 : List (List Value)} {l : List ArgD} (h : ArgJ base wi A1 cap es1 l l.length) : AtR ArgR 5 (freshB base) wi A1 l := by
  rcases h with ⟨rfl, h2⟩ | ⟨g, es, rfl, h2⟩
  · exact AtR.nil
  · exact h2.row.at_ ArgR.steady rfl (Nat.le_refl _)
end Go.Proofs.YtnepogddjinpoaaGreatDoor
