/-
  PLAIN LAWS: schemes.
-/
import Derived.Test.YtdnmgpidfjkiaaaDoorUrlSpec
namespace Go.Proofs.YtdnmgpidfjkiaaaDoor
set_option linter.unusedVariables false

theorem cutB_at (c : UInt8) (a b : List UInt8) (h : c ∉ a) : cutB c (a ++ c :: b) = (a, b, true) := by
  induction a with
  | nil => simp [cutB]
  | cons x a ih =>
    have h1 : x ≠ c := fun e => h (by simp [e])
    have h2 : c ∉ a := fun e => h (by simp [e])
    simp only [List.cons_append, cutB]
    rw [if_neg (by simpa using h1), ih h2]
theorem cutB_past (c x : UInt8) (a b : List UInt8) (h : c ∉ a) (hx : x ≠ c) : (cutB c (a ++ x :: b)).1 = a ++ x :: (cutB c b).1 := by
  induction a with
  | nil => simp [cutB, hx]
  | cons y a ih =>
    have h1 : y ≠ c := fun e => h (by simp [e])
    have h2 : c ∉ a := fun e => h (by simp [e])
    simp only [List.cons_append, cutB]
    rw [if_neg (by simpa using h1)]
    simp [ih h2]
def plainTo (a : List UInt8) (k : Nat) : Prop := ∀ j c, j < k → a[j]? = some c → c ≠ 58 ∧ ender c = false
theorem plainTo.all {a : List UInt8} (h : plainTo a a.length) : 58 ∉ a ∧ a.any ender = false := by
  refine ⟨fun hm => ?_, ?_⟩
  · obtain ⟨j, hj, e⟩ := List.getElem_of_mem hm
    exact (h j 58 hj (by rw [List.getElem?_eq_getElem hj, e])).1 rfl
  · rw [List.any_eq_false]
    intro x hx
    obtain ⟨j, hj, e⟩ := List.getElem_of_mem hx
    have := (h j x hj (by rw [List.getElem?_eq_getElem hj, e])).2
    simp [this]
theorem plainTo.next {a : List UInt8} {k : Nat} {c : UInt8} (h : plainTo a k) (hc : a[k]? = some c) (h1 : c ≠ 58) (h2 : ender c = false) : plainTo a (k + 1) := by
  intro j d hj hd
  rcases Nat.lt_or_ge j k with h3 | h3
  · exact h j d h3 hd
  · have : j = k := by omega
    subst this
    rw [hc] at hd
    cases hd
    exact ⟨h1, h2⟩
theorem scheme_colon {a : List UInt8} (b : List UInt8) (h : plainTo a a.length) : schemeB (a ++ 58 :: b) = (a.map smallB, true) := by
  unfold schemeB
  rw [cutB_at 58 a b h.all.1, if_pos (by simp [h.all.2])]
theorem scheme_ender {a : List UInt8} (b : List UInt8) (x : UInt8) (h : plainTo a a.length) (hx : x ≠ 58) (he : ender x = true) : schemeB (a ++ x :: b) = ([], false) := by
  unfold schemeB
  rw [cutB_past 58 x a b h.all.1 hx, if_neg (by simp [he])]

theorem scheme_none {l : List UInt8} (h : plainTo l l.length) : schemeB l = ([], false) := by
  unfold schemeB
  rw [if_neg]
  have h1 := h.all.1
  intro h2
  simp only [Bool.and_eq_true] at h2
  have := cutB_back 58 l
  rw [if_pos h2.1] at this
  exact h1 (by rw [← this]; simp)
theorem take_cons_drop (l : List UInt8) (k : Nat) (x : UInt8) (h : k < l.length) (hx : l[k] = x) : l = l.take k ++ x :: l.drop (k + 1) := by
  rw [← hx, ← List.drop_eq_getElem_cons h, List.take_append_drop]
theorem plainTo_take {l : List UInt8} {k : Nat} (h : plainTo l k) (hk : k ≤ l.length) : plainTo (l.take k) (l.take k).length := by
  intro j c hj hc
  rw [List.length_take] at hj
  rw [List.getElem?_take, if_pos (by omega)] at hc
  exact h j c (by omega) hc
def allowB (l : List UInt8) : Bool := l == [104, 116, 116, 112] || (l == [104, 116, 116, 112, 115] || l == [109, 97, 105, 108, 116, 111])
def markerL : List UInt8 := [35, 90, 103, 111, 116, 109, 112, 108, 90]
end Go.Proofs.YtdnmgpidfjkiaaaDoor
