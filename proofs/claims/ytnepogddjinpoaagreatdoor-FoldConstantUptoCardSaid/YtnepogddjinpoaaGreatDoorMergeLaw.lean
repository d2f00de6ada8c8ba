/-
  PLAIN LAWS of merging: what nodes are with their texts beside each other as one; what that leaves.
-/
import Derived.Test.YtnepogddjinpoaaGreatDoorM1
namespace Go.Proofs.YtnepogddjinpoaaGreatDoor
open Go.RowKit
set_option linter.unusedVariables false

/-- One node more, behind those that are there: a text behind a text is put to it. -/
def besideStep {α : Type} (out : List (NN α)) (x : NN α) : List (NN α) :=
  match out.getLast? with
  | some y => if x.k = 1 ∧ y.k = 1 then out.dropLast ++ [{ y with s := y.s ++ x.s }] else out ++ [x]
  | none => [x]
def besideL {α : Type} (l : List (NN α)) : List (NN α) := l.foldl besideStep []
/-- Merged, within all nodes. -/
def underN {α : Type} (f : List α → List α) (x : NN α) : NN α := { x with body := f x.body, els := f x.els }
def mergeW {α : Type} (f : List α → List α) (l : List (NN α)) : List (NN α) := (besideL l).map (underN f)
def mergeL : (n : Nat) → List (NT n) → List (NT n)
  | 0, l => l
  | n + 1, l => mergeW (mergeL n) l
/-- All texts. -/
def textsW {α : Type} (f : List α → List UInt8) (l : List (NN α)) : List UInt8 := l.flatMap fun x => (if x.k = 1 then x.s else []) ++ (f x.body ++ f x.els)
def textsL : (n : Nat) → List (NT n) → List UInt8
  | 0, _ => []
  | n + 1, l => textsW (textsL n) l
def properW {α : Type} (f : List α → Bool) (l : List (NN α)) : Bool := l.all fun x => !(decide (x.k = 1) && decide (0 < x.body.length + x.els.length)) && (f x.body && f x.els)
def properL : (n : Nat) → List (NT n) → Bool
  | 0, _ => true
  | n + 1, l => properW (properL n) l
/-- Are no texts beside each other in a list? -/
def noAdj {α : Type} : List (NN α) → Bool
  | x :: y :: l => !(decide (x.k = 1) && decide (y.k = 1)) && noAdj (y :: l)
  | _ => true
def apartW {α : Type} (f : List α → Bool) (l : List (NN α)) : Bool := noAdj l && l.all fun x => f x.body && f x.els
def apartL : (n : Nat) → List (NT n) → Bool
  | 0, _ => true
  | n + 1, l => apartW (apartL n) l
def othersW {α : Type} (f : List α → Nat) (l : List (NN α)) : Nat := sumBy (fun x => (if x.k = 1 then 0 else 1) + (f x.body + f x.els)) l
def othersL : (n : Nat) → List (NT n) → Nat
  | 0, _ => 0
  | n + 1, l => othersW (othersL n) l
theorem noAdj_snoc {α : Type} : ∀ (l : List (NN α)) (x : NN α), noAdj (l ++ [x]) = (noAdj l && match l.getLast? with | some y => !(decide (y.k = 1) && decide (x.k = 1)) | none => true) := by
  intro l
  induction l with
  | nil => intro x; rfl
  | cons a l ih =>
    intro x
    cases l with
    | nil => simp [noAdj]
    | cons b l =>
      have := ih x
      simp only [List.cons_append] at this ⊢
      simp only [noAdj, this]
      rw [List.getLast?_cons_cons, Bool.and_assoc]
theorem last_split {α : Type} {l : List α} {y : α} (h : l.getLast? = some y) : l = l.dropLast ++ [y] := by
  have hne : l ≠ [] := by intro e; subst e; cases h
  rw [List.getLast?_eq_some_getLast hne] at h
  injection h with h
  rw [← h]
  exact (List.dropLast_concat_getLast hne).symm
theorem besideStep_adj {α : Type} {out : List (NN α)} (x : NN α) (h : noAdj out = true) : noAdj (besideStep out x) = true := by
  unfold besideStep
  cases hl : out.getLast? with
  | none => rfl
  | some y =>
    have hs := last_split hl
    simp only
    by_cases hc : x.k = 1 ∧ y.k = 1
    · rw [if_pos hc]
      rw [hs, noAdj_snoc] at h
      rw [noAdj_snoc]
      exact h
    · rw [if_neg hc, noAdj_snoc, h, hl]
      simp only [Bool.true_and, Bool.not_eq_true', Bool.and_eq_false_iff, decide_eq_false_iff_not]
      by_cases h1 : y.k = 1
      · exact .inr fun h2 => hc ⟨h2, h1⟩
      · exact .inl h1
theorem foldl_adj {α : Type} : ∀ (l out : List (NN α)), noAdj out = true → noAdj (l.foldl besideStep out) = true := by
  intro l
  induction l with
  | nil => intro out h; exact h
  | cons x l ih => intro out h; exact ih _ (besideStep_adj x h)
theorem beside_adj {α : Type} (l : List (NN α)) : noAdj (besideL l) = true := foldl_adj l [] rfl
theorem foldl_id {α : Type} : ∀ (l out : List (NN α)), noAdj (out ++ l) = true → l.foldl besideStep out = out ++ l := by
  intro l
  induction l with
  | nil => intro out _; simp
  | cons x l ih =>
    intro out h
    have hx : besideStep out x = out ++ [x] := by
      unfold besideStep
      cases hl : out.getLast? with
      | none => rw [List.getLast?_eq_none_iff.1 hl]; rfl
      | some y =>
        simp only
        rw [if_neg]
        rintro ⟨h1, h2⟩
        have hp : ∀ (a b : List (NN α)), noAdj (a ++ b) = true → noAdj a = true := by
          intro a b
          induction b generalizing a with
          | nil => intro h; simpa using h
          | cons z b ihb =>
            intro h
            have := ihb (a ++ [z]) (by simpa using h)
            rw [noAdj_snoc] at this
            simp only [Bool.and_eq_true] at this
            exact this.1
        have h3 := hp (out ++ [x]) l (by simpa using h)
        rw [noAdj_snoc, hl] at h3
        simp [h1, h2] at h3
    rw [List.foldl_cons, hx, ih _ (by simpa using h)]
    simp
theorem beside_id {α : Type} {l : List (NN α)} (h : noAdj l = true) : besideL l = l := foldl_id l [] (by simpa using h)
theorem noAdj_map {α : Type} (f : NN α → NN α) (hf : ∀ x, (f x).k = x.k) : ∀ l : List (NN α), noAdj (l.map f) = noAdj l := by
  intro l
  induction l with
  | nil => rfl
  | cons a l ih =>
    cases l with
    | nil => rfl
    | cons b l => simp only [List.map_cons, noAdj, hf] at ih ⊢; rw [ih]
theorem mergeW_apart {α : Type} (f : List α → List α) (g : List α → Bool) (h : ∀ l, g (f l) = true) (l : List (NN α)) : apartW g (mergeW f l) = true := by
  unfold apartW mergeW
  rw [noAdj_map (underN f) (fun x => rfl), beside_adj, Bool.true_and, List.all_map, List.all_eq_true]
  intro x hx
  simp [h, underN]
theorem merge_apart : ∀ (n : Nat) (l : List (NT n)), apartL n (mergeL n l) = true := by
  intro n
  induction n with
  | zero => intro l; rfl
  | succ n ih => intro l; exact mergeW_apart _ _ ih l
theorem mergeW_mergeW {α : Type} (f : List α → List α) (h : ∀ l, f (f l) = f l) (l : List (NN α)) : mergeW f (mergeW f l) = mergeW f l := by
  unfold mergeW
  rw [beside_id (by rw [noAdj_map (underN f) (fun x => rfl)]; exact beside_adj l), List.map_map]
  congr 1
  funext x
  simp [h, underN]
theorem merge_merge : ∀ (n : Nat) (l : List (NT n)), mergeL n (mergeL n l) = mergeL n l := by
  intro n
  induction n with
  | zero => intro l; rfl
  | succ n ih => intro l; exact mergeW_mergeW _ ih l
/-- A measure that adds up over nodes, and over texts beside each other. -/
theorem foldl_sum {α β : Type} (f : NN α → List β) (ok : NN α → Prop) (hok : ∀ x y : NN α, ok x → ok y → x.k = 1 → y.k = 1 → ok { y with s := y.s ++ x.s } ∧ f { y with s := y.s ++ x.s } = f y ++ f x) :
    ∀ (l out : List (NN α)), (∀ x ∈ l, ok x) → (∀ x ∈ out, ok x) → (∀ x ∈ l.foldl besideStep out, ok x) ∧ (l.foldl besideStep out).flatMap f = out.flatMap f ++ l.flatMap f := by
  intro l
  induction l with
  | nil => intro out _ h; exact ⟨h, by simp⟩
  | cons x l ih =>
    intro out hl ho
    have hx := hl x (by simp)
    have hstep : (∀ z ∈ besideStep out x, ok z) ∧ (besideStep out x).flatMap f = out.flatMap f ++ f x := by
      unfold besideStep
      cases hg : out.getLast? with
      | none =>
        rw [List.getLast?_eq_none_iff.1 hg]
        exact ⟨fun z hz => by simp at hz; subst hz; exact hx, by simp⟩
      | some y =>
        have hs := last_split hg
        have hy : ok y := ho y (by rw [hs]; simp)
        simp only
        by_cases hc : x.k = 1 ∧ y.k = 1
        · rw [if_pos hc]
          obtain ⟨h1, h2⟩ := hok x y hx hy hc.1 hc.2
          refine ⟨fun z hz => ?_, ?_⟩
          · rcases List.mem_append.1 hz with hz | hz
            · exact ho z (List.dropLast_subset _ hz)
            · simp at hz; subst hz; exact h1
          · conv => rhs; rw [hs]
            simp [h2]
        · rw [if_neg hc]
          refine ⟨fun z hz => ?_, by simp⟩
          rcases List.mem_append.1 hz with hz | hz
          · exact ho z hz
          · simp at hz; subst hz; exact hx
    obtain ⟨h1, h2⟩ := ih (besideStep out x) (fun z hz => hl z (by simp [hz])) hstep.1
    exact ⟨h1, by rw [List.foldl_cons, h2, hstep.2]; simp⟩
def okW {α : Type} (f : List α → Bool) (x : NN α) : Prop := (x.k = 1 → x.body = [] ∧ x.els = []) ∧ f x.body = true ∧ f x.els = true
theorem properW_ok {α : Type} {f : List α → Bool} {l : List (NN α)} (h : properW f l = true) : ∀ x ∈ l, okW f x := by
  intro x hx
  have h1 := List.all_eq_true.1 h x hx
  simp only [Bool.and_eq_true, Bool.not_eq_true', Bool.and_eq_false_iff, decide_eq_false_iff_not] at h1
  refine ⟨fun hk => ?_, h1.2.1, h1.2.2⟩
  rcases h1.1 with h2 | h2
  · exact absurd hk h2
  · exact ⟨List.eq_nil_of_length_eq_zero (by omega), List.eq_nil_of_length_eq_zero (by omega)⟩
theorem textsL_nil (n : Nat) : textsL n [] = [] := by cases n <;> rfl
theorem othersL_nil (n : Nat) : othersL n [] = 0 := by cases n <;> rfl
theorem properL_nil (n : Nat) : properL n [] = true := by cases n <;> rfl
theorem mergeL_nil (n : Nat) : mergeL n [] = [] := by cases n <;> rfl
theorem flat_length {β : Type} {α : Type} (f : α → List β) : ∀ l : List α, (l.flatMap f).length = sumBy (fun x => (f x).length) l := by
  intro l
  induction l with
  | nil => rfl
  | cons x l ih => simp [sumBy, ih]
theorem flatMap_same {α β : Type} {f g : α → List β} : ∀ l : List α, (∀ x ∈ l, f x = g x) → l.flatMap f = l.flatMap g := by
  intro l
  induction l with
  | nil => intro _; rfl
  | cons x l ih => intro h; rw [List.flatMap_cons, List.flatMap_cons, h x (by simp), ih (fun y hy => h y (by simp [hy]))]
theorem sumBy_same {α : Type} {f g : α → Nat} : ∀ l : List α, (∀ x ∈ l, f x = g x) → sumBy f l = sumBy g l := by
  intro l
  induction l with
  | nil => intro _; rfl
  | cons x l ih => intro h; simp only [sumBy]; rw [h x (by simp), ih (fun y hy => h y (by simp [hy]))]
theorem mergeW_same {α : Type} (f : List α → List α) (p : List α → Bool) (t : List α → List UInt8) (o : List α → Nat) (ht : t [] = []) (ho : o [] = 0) (ih : ∀ l, p l = true → t (f l) = t l ∧ o (f l) = o l) (l : List (NN α)) (hp : properW p l = true) :
    textsW t (mergeW f l) = textsW t l ∧ othersW o (mergeW f l) = othersW o l := by
  have hl := properW_ok hp
  have h1 := foldl_sum (α := α) (β := UInt8) (fun x => (if x.k = 1 then x.s else []) ++ (t x.body ++ t x.els)) (okW p) (by
    intro x y hx hy k1 k2
    refine ⟨⟨fun _ => hy.1 k2, hy.2⟩, ?_⟩
    simp [k1, k2, (hx.1 k1).1, (hx.1 k1).2, (hy.1 k2).1, (hy.1 k2).2, ht]) l [] hl (fun x hx => by cases hx)
  have h2 := foldl_sum (α := α) (β := Unit) (fun x => List.replicate ((if x.k = 1 then 0 else 1) + (o x.body + o x.els)) ()) (okW p) (by
    intro x y hx hy k1 k2
    refine ⟨⟨fun _ => hy.1 k2, hy.2⟩, ?_⟩
    simp [k1, k2, (hx.1 k1).1, (hx.1 k1).2, (hy.1 k2).1, (hy.1 k2).2, ho]) l [] hl (fun x hx => by cases hx)
  have hok := h1.1
  have h3 := h1.2
  have h4 := congrArg List.length h2.2
  simp only [List.flatMap_nil, List.nil_append, flat_length, List.length_replicate] at h3 h4
  constructor
  · unfold textsW mergeW
    rw [← h3, List.flatMap_map]
    refine flatMap_same _ ?_
    intro x hx
    have := hok x hx
    simp only [underN]
    rw [(ih x.body this.2.1).1, (ih x.els this.2.2).1]
    rfl
  · unfold othersW mergeW
    rw [← h4, sumBy_map]
    refine sumBy_same _ ?_
    intro x hx
    have := hok x hx
    simp only [underN]
    rw [(ih x.body this.2.1).2, (ih x.els this.2.2).2]
    rfl
/-- Merged: the texts are the same, what is no text as many. -/
theorem merge_same : ∀ (n : Nat) (l : List (NT n)), properL n l = true → textsL n (mergeL n l) = textsL n l ∧ othersL n (mergeL n l) = othersL n l := by
  intro n
  induction n with
  | zero => intro l _; exact ⟨rfl, rfl⟩
  | succ n ih => intro l hp; exact mergeW_same _ _ _ _ (textsL_nil n) (othersL_nil n) ih l hp
end Go.Proofs.YtnepogddjinpoaaGreatDoor
