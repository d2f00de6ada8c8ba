/-
  PLAIN LAWS of many texts, in one.
-/
import Derived.Test.YtdnmgpidfjkiaaaDoorM2
import Derived.Test.YtdnmgpidfjkiaaaDoorM1
import Derived.Test.YtdnmgpidfjkiaaaDoorTrim
namespace Go.Proofs.YtdnmgpidfjkiaaaDoor
set_option linter.unusedVariables false
set_option linter.unusedSimpArgs false

/-- Behind a value. -/
def Behind (p : Pos) : Prop := p.1 = 1 ∧ endedB 1 p.2 = 1
theorem Behind.step {p : Pos} (h : Behind p) (c : UInt8) (hc : wordyB c = false) : stepB p c = (signB 1 c, []) := by
  obtain ⟨n, w⟩ := p
  obtain ⟨h1, h2⟩ := h
  simp only at h1 h2
  subst h1
  show codeB 1 w c = _
  unfold codeB
  rw [hc, h2]; rfl
theorem step_code {p : Nat} (hp : p = 0 ∨ p = 1) (w : List UInt8) (c : UInt8) : stepB (p, w) c = codeB p w c := by
  rcases hp with rfl | rfl <;> rfl
theorem step_sign {p : Nat} (hp : p = 0 ∨ p = 1) (c : UInt8) (hc : wordyB c = false) : stepB (p, []) c = (signB p c, []) := by
  rw [step_code hp]
  unfold codeB
  rw [hc]
  have : endedB p [] = p := by unfold endedB; simp
  rw [this]; rfl
theorem feed_wordy (c0 : UInt8) : ∀ (l w : List UInt8), l.all wordyB = true → w.head? = some c0 → ∃ w', feedB (1, w) l = (1, w') ∧ w'.head? = some c0 := by
  intro l
  induction l with
  | nil => intro w _ h; exact ⟨w, rfl, h⟩
  | cons c l ih =>
    intro w hall h
    simp only [List.all_cons, Bool.and_eq_true] at hall
    rw [feedB_cons]
    have hs : stepB (1, w) c = (1, if w.length < 16 then w ++ [c] else w) := by
      show codeB 1 w c = _
      unfold codeB; rw [hall.1]; rfl
    rw [hs]
    refine ih _ hall.2 ?_
    split
    · cases w with
      | nil => simp at h
      | cons a w => simpa using h
    · exact h
theorem feed_number {p : Nat} (hp : p = 0 ∨ p = 1) (l : List UInt8) (h0 : l ≠ []) (h : l.all isDig = true) : Behind (feedB (p, []) l) := by
  cases l with
  | nil => exact absurd rfl h0
  | cons c l =>
    simp only [List.all_cons, Bool.and_eq_true] at h
    have hwd : ∀ x : UInt8, isDig x = true → wordyB x = true := fun x hx => by unfold wordyB; rw [hx]; simp
    have hs : stepB (p, []) c = (1, [c]) := by
      rw [step_code hp]
      unfold codeB; rw [hwd c h.1]; rfl
    rw [feedB_cons, hs]
    obtain ⟨w, hw, hh⟩ := feed_wordy c l [c] (List.all_eq_true.2 fun x hx => hwd x (List.all_eq_true.1 h.2 x hx)) rfl
    rw [hw]
    refine ⟨rfl, ?_⟩
    show endedB 1 w = 1
    unfold endedB
    have hno : wordsL.any (· == w) = false := by
      rw [List.any_eq_false]
      intro x hx
      have hd : ∀ y ∈ wordsL, (y.head?.map isDig) = some false := by decide
      have := hd x hx
      intro he
      have he : x = w := by simpa using he
      subst he
      rw [hh] at this
      simp at this
      rw [this] at h
      exact absurd h.1 (by simp)
    rw [hno]; simp
theorem pInt_digits (n : Int) : (0 ≤ n → (pInt n).all isDig = true ∧ pInt n ≠ []) ∧ (n < 0 → ∃ l, pInt n = 45 :: l ∧ l.all isDig = true ∧ l ≠ []) := by
  constructor
  · intro h
    unfold pInt
    rw [if_neg (by omega)]
    exact ⟨decs_all _, decs_ne _⟩
  · intro h
    unfold pInt
    rw [if_pos h]
    exact ⟨_, rfl, decs_all _, decs_ne _⟩
theorem feed_text {p : Nat} (hp : p = 0 ∨ p = 1) (s : List UInt8) : feedB (p, []) (quoteL s) = (1, []) := by
  unfold quoteL
  rw [feedB_cons, step_sign hp 34 (by decide)]
  have : signB p 34 = 2 := by rcases hp with rfl | rfl <;> decide
  rw [this, feedB_app]
  have h1 := feed_esc 2 (.inl rfl) (charsR s) []
  show feedB (feedB (2, []) ((charsR s).flatMap quoteI)) [34] = _
  generalize feedB (2, []) ((charsR s).flatMap quoteI) = q at h1
  obtain ⟨n, v⟩ := q
  simp only at h1
  subst h1
  rfl
theorem bodyC_feed (key : Nat → List UInt8) (hkey : ∀ i, key i = [] ∨ ∃ k, key i = quoteL k ++ [58]) : ∀ (ps : List (List UInt8)) (j : Nat) (q : Pos), (∀ p ∈ ps, ∀ a, a = 0 ∨ a = 1 → Behind (feedB (a, []) p)) → ps ≠ [] → (j = 0 ∧ q = (0, []) ∨ 0 < j ∧ Behind q) → Behind (feedB q (bodyC key j ps)) := by
  intro ps
  induction ps with
  | nil => intro j q _ h; exact absurd rfl h
  | cons p r ih =>
    intro j q hp _ hq
    have h1 : feedB q (if j = 0 then [] else [44]) = (0, []) := by
      rcases hq with ⟨rfl, rfl⟩ | ⟨hj, hb⟩
      · rfl
      · rw [if_neg (by omega), feedB_cons, hb.step 44 (by decide)]; rfl
    have h2 : feedB (0, []) (key j) = (0, []) := by
      rcases hkey j with h | ⟨k, h⟩
      · rw [h]; rfl
      · rw [h, feedB_app, feed_text (.inl rfl)]; rfl
    have h3 : Behind (feedB (0, []) p) := hp p (List.mem_cons_self ..) 0 (.inl rfl)
    unfold bodyC
    rw [feedB_app, feedB_app, feedB_app, h1, h2]
    cases r with
    | nil => exact h3
    | cons p2 r2 => exact ih (j + 1) _ (fun x hx => hp x (List.mem_cons_of_mem _ hx)) (by simp) (.inr ⟨by omega, h3⟩)
theorem keyC_form (ks : List (List UInt8)) (i : Nat) : keyC ks i = [] ∨ ∃ k, keyC ks i = quoteL k ++ [58] := by
  unfold keyC
  split
  · exact .inr ⟨_, rfl⟩
  · exact .inl rfl
/-- A literal leads from where a value may come, or from behind one, to behind one. -/
theorem lit_feed : ∀ (n : Nat) (d : VT n) (a : Nat), 1 ≤ n → a = 0 ∨ a = 1 → Behind (feedB (a, []) (litR n d)) := by
  intro n
  induction n with
  | zero => intro d a h; omega
  | succ n ih =>
    intro d a _ ha
    obtain ⟨k, i, s, l, ks⟩ := d
    rw [lit_mk]
    have many : ∀ (o c : UInt8) (key : Nat → List UInt8), (∀ i, key i = [] ∨ ∃ k, key i = quoteL k ++ [58]) → wordyB o = false → wordyB c = false → (∀ p, p = 0 ∨ p = 1 → signB p o = 0) → signB 0 c = 1 → signB 1 c = 1 → Behind (feedB (a, []) (o :: (bodyC key 0 (l.map (litR n)) ++ [c]))) := by
      intro o c key hkey ho hc hso hc0 hc1
      rw [feedB_cons, step_sign ha o ho, hso a ha, feedB_app]
      cases l with
      | nil =>
        show Behind (feedB (0, []) [c])
        rw [feedB_cons, step_sign (.inl rfl) c hc, hc0]
        exact ⟨rfl, by decide⟩
      | cons x r =>
        have hb := bodyC_feed key hkey ((x :: r).map (litR n)) 0 (0, []) (fun p hp a ha => by
          obtain ⟨y, _, rfl⟩ := List.mem_map.1 hp
          cases n with
          | zero => exact y.elim
          | succ n => exact ih y a (by omega) ha) (by simp) (.inl ⟨rfl, rfl⟩)
        rw [feedB_cons, hb.step c hc, hc1]
        exact ⟨rfl, by decide⟩
    split
    · rcases ha with rfl | rfl <;> exact ⟨by decide, by decide⟩
    split
    · rcases ha with rfl | rfl <;> exact ⟨by decide, by decide⟩
    split
    · rcases ha with rfl | rfl <;> exact ⟨by decide, by decide⟩
    split
    · split
      · rename_i h
        obtain ⟨dl, he, h1, h2⟩ := (pInt_digits i).2 h
        rw [he, feedB_cons, step_sign ha 32 (by decide), feedB_cons]
        have hs : signB a 32 = a := by rcases ha with rfl | rfl <;> decide
        rw [hs, step_sign ha 45 (by decide)]
        have h0 : signB a 45 = 0 := by rcases ha with rfl | rfl <;> decide
        rw [h0]
        exact feed_number (.inl rfl) dl h2 h1
      · rename_i h
        obtain ⟨h1, h2⟩ := (pInt_digits i).1 (by omega)
        exact feed_number ha _ h2 h1
    split
    · rw [partsL_none]
      exact many 91 93 _ (fun i => .inl rfl) (by decide) (by decide) (fun p hp => by rcases hp with rfl | rfl <;> decide) (by decide) (by decide)
    split
    · rw [partsL_some]
      exact many 123 125 _ (keyC_form ks) (by decide) (by decide) (fun p hp => by rcases hp with rfl | rfl <;> decide) (by decide) (by decide)
    · rw [feed_text ha]
      exact ⟨rfl, by decide⟩
/-- Blanks around. -/
theorem lit_around {n : Nat} (d : VN (VT n)) (a : Nat) (ha : a = 0 ∨ a = 1) (word : List UInt8) : feedB (a, word) (32 :: (litR (n + 1) d ++ [32])) = (1, []) := by
  rw [feedB_cons, feedB_app]
  have hs : ∃ b, (b = 0 ∨ b = 1) ∧ stepB (a, word) 32 = (b, []) := by
    rw [step_code ha]
    unfold codeB
    rw [if_neg (by decide)]
    refine ⟨_, ?_, rfl⟩
    have : signB (endedB a word) 32 = endedB a word := by unfold signB; rw [if_pos (by decide)]
    rw [this]
    unfold endedB
    split
    · exact .inl rfl
    · exact ha
  obtain ⟨b, hb, he⟩ := hs
  rw [he]
  have h := lit_feed (n + 1) d b (by omega) hb
  rw [feedB_cons, h.step 32 (by decide)]
  rfl
end Go.Proofs.YtdnmgpidfjkiaaaDoor

namespace Go.Proofs.YtdnmgpidfjkiaaaDoor
set_option linter.unusedVariables false

/-- Begins and ends in an octet that is no blank. -/
def Solid (l : List UInt8) : Prop := (∃ c r, l = c :: r ∧ isBlank c = false) ∧ ∃ a b, l = a ++ [b] ∧ isBlank b = false
theorem solid_trim {l : List UInt8} (h : Solid l) (p : List UInt8) (hp : p.all isBlank = true) : trimL (p ++ (l ++ [32])) = l := by
  obtain ⟨⟨c, r, hc, hcb⟩, a, b, hb, hbb⟩ := h
  have h1 : trimR (p ++ (l ++ [32])) = p ++ l := by
    rw [← List.append_assoc, trimR_blank _ _ (by decide)]
    rw [hb, ← List.append_assoc, trimR_other _ _ hbb]
  unfold trimL
  rw [h1]
  clear h1
  induction p with
  | nil => rw [List.nil_append, hc, List.dropWhile_cons, hcb]; rfl
  | cons q p ih =>
    simp only [List.all_cons, Bool.and_eq_true] at hp
    rw [List.cons_append, List.dropWhile_cons, hp.1, if_pos rfl]
    exact ih hp.2
theorem dig_solid {l : List UInt8} (h : l.all isDig = true) (hne : l ≠ []) : Solid l := by
  have hd : ∀ c, isDig c = true → isBlank c = false := fun c hc => by
    have := allBytes (fun c => !(isDig c) || !(isBlank c)) (by decide +kernel) c
    rw [hc] at this
    simpa using this
  rw [List.all_eq_true] at h
  refine ⟨?_, l.dropLast, l.getLast hne, (List.dropLast_concat_getLast hne).symm, hd _ (h _ (List.getLast_mem hne))⟩
  cases l with
  | nil => exact absurd rfl hne
  | cons c r => exact ⟨c, r, rfl, hd c (h c (List.mem_cons_self ..))⟩
theorem solid_ends (c d : UInt8) (m : List UInt8) (hc : isBlank c = false) (hd : isBlank d = false) : Solid (c :: (m ++ [d])) := ⟨⟨c, _, rfl, hc⟩, c :: m, d, rfl, hd⟩
/-- What jsscan.Literal hands to the reader. -/
def litIn (s : List UInt8) : List UInt8 := if [45].isPrefixOf (trimL s) then 32 :: trimL s else trimL s
theorem litIn_solid {l : List UInt8} (h : Solid l) (hd : ∀ r, l ≠ 45 :: r) : litIn (32 :: (l ++ [32])) = l := by
  have ht : trimL (32 :: (l ++ [32])) = l := solid_trim h [32] (by decide)
  unfold litIn
  rw [ht, if_neg]
  intro hp
  obtain ⟨⟨c, r, hc, _⟩, _⟩ := h
  rw [hc] at hp
  simp only [List.isPrefixOf, Bool.and_true] at hp
  have : (45 : UInt8) = c := eq_of_beq hp
  exact hd r (by rw [hc, ← this])
theorem litIn_lit {m : Nat} (d : VN (VT m)) : litIn (32 :: (litR (m + 1) d ++ [32])) = litR (m + 1) d := by
  obtain ⟨k, i, s, l, ks⟩ := d
  rw [lit_mk]
  by_cases h0 : k = 0
  · rw [if_pos h0]; decide
  rw [if_neg h0]
  by_cases h1 : k = 1
  · rw [if_pos h1]; decide
  rw [if_neg h1]
  by_cases h2 : k = 2
  · rw [if_pos h2]; decide
  rw [if_neg h2]
  by_cases h3 : k = 3
  · rw [if_pos h3]
    by_cases hi : i < 0
    · rw [if_pos hi]
      obtain ⟨t, ht, h4, h5⟩ := (pInt_digits i).2 hi
      have hs : Solid (pInt i) := by
        rw [ht]
        obtain ⟨_, a, b, hab, hb⟩ := dig_solid h4 h5
        exact ⟨⟨45, t, rfl, by decide⟩, 45 :: a, b, by rw [hab]; rfl, hb⟩
      have hx : trimL (32 :: (32 :: pInt i ++ [32])) = pInt i := solid_trim hs [32, 32] (by decide)
      unfold litIn
      rw [hx, if_pos (by rw [ht]; rfl)]
    · rw [if_neg hi]
      obtain ⟨h4, h5⟩ := (pInt_digits i).1 (by omega)
      refine litIn_solid (dig_solid h4 h5) fun r hr => ?_
      rw [hr] at h4
      simp only [List.all_cons, Bool.and_eq_true] at h4
      exact absurd h4.1 (by decide)
  rw [if_neg h3]
  by_cases h5 : k = 5
  · rw [if_pos h5]; exact litIn_solid (solid_ends _ _ _ (by decide) (by decide)) fun r hr => absurd (List.cons.inj hr).1 (by decide)
  rw [if_neg h5]
  by_cases h6 : k = 6
  · rw [if_pos h6]; exact litIn_solid (solid_ends _ _ _ (by decide) (by decide)) fun r hr => absurd (List.cons.inj hr).1 (by decide)
  rw [if_neg h6]
  exact litIn_solid (solid_ends 34 34 _ (by decide) (by decide)) fun r hr => absurd (List.cons.inj hr).1 (by decide)
end Go.Proofs.YtdnmgpidfjkiaaaDoor
