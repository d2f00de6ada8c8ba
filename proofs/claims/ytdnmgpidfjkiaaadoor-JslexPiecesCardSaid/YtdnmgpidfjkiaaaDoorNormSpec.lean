/-
  PLAIN LAWS: a normal text is its own.
-/
import Derived.Test.YtdnmgpidfjkiaaaDoorFiltSpec
import Derived.Test.YtdnmgpidfjkiaaaDoorBackSpec
namespace Go.Proofs.YtdnmgpidfjkiaaaDoor
set_option linter.unusedVariables false

/-- Octets that may be, and three of what is encoded. -/
inductive NormT : List UInt8 → Prop
  | nil : NormT []
  | one (c : UInt8) (r : List UInt8) : (unresB c || resB c) = true → NormT r → NormT (c :: r)
  | pct (a b : UInt8) (r : List UInt8) : hexB a = true → hexB b = true → NormT r → NormT (37 :: a :: b :: r)
theorem hexB_unres (c : UInt8) (h : hexB c = true) : unresB c = true := by
  have := allBytes (fun c => !hexB c || unresB c) (by decide +kernel) c
  rw [h] at this
  simpa using this
theorem keep_unres {nm : Bool} {c : UInt8} {r : List UInt8} (h : unresB c = true) : keepB nm c r = true := by simp [keepB, h]
theorem normT_pct (l : List UInt8) : NormT (pctR true l) := by
  induction hn : l.length using Nat.strongRecOn generalizing l with
  | _ n ih =>
    match l with
    | [] => exact .nil
    | c :: r =>
      have hr : NormT (pctR true r) := ih r.length (by simp at hn; omega) r rfl
      simp only [pctR]
      by_cases h1 : (unresB c || resB c) = true
      · have hk : keepB true c r = true := by
          simp only [Bool.or_eq_true] at h1
          rcases h1 with h | h <;> simp [keepB, h]
        rw [hk, if_pos rfl]
        exact .one c _ h1 hr
      · by_cases h2 : codedB (c :: r) = true
        · have hk : keepB true c r = true := by simp [keepB, h2]
          rw [hk, if_pos rfl]
          match r with
          | [] => cases h2
          | [a] => cases h2
          | a :: b :: r' =>
            simp only [codedB, Bool.and_eq_true, beq_iff_eq] at h2
            obtain ⟨rfl, ha, hb⟩ := h2
            have hr' : NormT (pctR true r') := ih r'.length (by simp at hn; omega) r' rfl
            simp only [pctR, keep_unres (nm := true) (hexB_unres a ha), keep_unres (nm := true) (hexB_unres b hb), if_true]
            exact .pct a b _ ha hb hr'
        · have hk : keepB true c r = false := by
            simp only [Bool.not_eq_true] at h1 h2
            simp only [Bool.or_eq_false_iff] at h1
            simp [keepB, h1.1, h1.2, h2]
          rw [hk, if_neg Bool.false_ne_true]
          obtain ⟨a, b, e, ha, hb, _⟩ := pct2_good c
          rw [e]
          exact .pct a b _ ha hb hr
theorem norm_self {l : List UInt8} (h : NormT l) : pctR true l = l := by
  induction h with
  | nil => rfl
  | one c r h1 _ ih =>
    have hk : keepB true c r = true := by
      simp only [Bool.or_eq_true] at h1
      rcases h1 with h | h <;> simp [keepB, h]
    simp only [pctR, hk, if_true, ih]; rfl
  | pct a b r ha hb _ ih =>
    have hk : keepB true 37 (a :: b :: r) = true := by simp [keepB, codedB, ha, hb]
    simp only [pctR, hk, keep_unres (nm := true) (hexB_unres a ha), keep_unres (nm := true) (hexB_unres b hb), if_true, ih]; rfl
theorem norm_ne (c : UInt8) (h : (unresB c || resB c) = true) : (c != 37) = true := by
  have := allBytes (fun c => !(unresB c || resB c) || c != 37) (by decide +kernel) c
  rw [h] at this
  simpa using this
theorem norm_unp {l : List UInt8} (h : NormT l) : (unp l).2.2 = true := by
  induction h with
  | nil => rw [unp_nil]
  | one c r h1 _ ih => rw [unp_keep c r (norm_ne c h1)]; exact ih
  | pct a b r ha hb _ ih =>
    rw [unp_code 37 _ rfl (by simp [codedB, ha, hb])]
    exact ih
theorem norm_ascii {l : List UInt8} (h : NormT l) : ∀ c ∈ l, 0 < c.toNat ∧ c.toNat < 128 := by
  have key : ∀ c : UInt8, (unresB c || (resB c || c == 37)) = true → 0 < c.toNat ∧ c.toNat < 128 := by
    intro c h
    have := allBytes (fun c => !(unresB c || (resB c || c == 37)) || (decide (0 < c.toNat) && decide (c.toNat < 128))) (by decide +kernel) c
    rw [h] at this
    simpa using this
  induction h with
  | nil => simp
  | one c r h1 _ ih =>
    intro x hx
    rcases List.mem_cons.1 hx with rfl | hx
    · exact key _ (by simp only [Bool.or_eq_true] at h1 ⊢; rcases h1 with h | h <;> simp [h])
    · exact ih x hx
  | pct a b r ha hb _ ih =>
    intro x hx
    simp only [List.mem_cons] at hx
    rcases hx with rfl | rfl | rfl | hx
    · exact key _ (by decide)
    · exact key _ (by simp [hexB_unres _ ha])
    · exact key _ (by simp [hexB_unres _ hb])
    · exact ih x hx
theorem norm_mem {l : List UInt8} (h : NormT l) : ∀ c ∈ l, (c == 37 || (resB c || unresB c)) = true := by
  induction h with
  | nil => simp
  | one c r h1 _ ih =>
    intro x hx
    rcases List.mem_cons.1 hx with rfl | hx
    · simp only [Bool.or_eq_true] at h1 ⊢; rcases h1 with h | h <;> simp [h]
    · exact ih x hx
  | pct a b r ha hb _ ih =>
    intro x hx
    simp only [List.mem_cons] at hx
    rcases hx with rfl | rfl | rfl | hx
    · rfl
    · simp [hexB_unres _ ha]
    · simp [hexB_unres _ hb]
    · exact ih x hx
theorem repairR_ascii_cons (c : UInt8) (r : List UInt8) (h : 0 < c.toNat ∧ c.toNat < 128) : repairR (c :: r) = c :: repairR r := by
  rw [repairR_cons _ (by simp), decR_ascii c r h.2]
  show encL (fixC c.toNat) ++ repairR r = _
  unfold fixC
  rw [if_neg (by omega), encL_good (by simp [badC]; omega)]
  unfold encR
  rw [if_pos (by simpa using h.2)]
  simp [u8_self]
theorem repairR_ascii {l : List UInt8} (h : ∀ c ∈ l, 0 < c.toNat ∧ c.toNat < 128) : repairR l = l := by
  induction l with
  | nil => simp [repairR, charsR_nil]
  | cons c r ih => rw [repairR_ascii_cons c r (h c (by simp)), ih fun x hx => h x (by simp [hx])]
/-- Normal again: the text. -/
theorem normal_again (l : List UInt8) : pctR true (repairR (pctR true l)) = pctR true l := by
  rw [repairR_ascii (norm_ascii (normT_pct l)), norm_self (normT_pct l)]
/-- A first character of a text is the first one of more. -/
theorem decR_app {a : List UInt8} (b : List UInt8) (h : 0 ≤ (decR a).1) : decR (a ++ b) = decR a := by
  match a with
  | [] => simp [decR] at h
  | c :: r =>
    rw [decR_cons] at h
    split at h
    · exact absurd h (by decide)
    · rename_i h1
      have ht : (r ++ b).take (sizeR c - 1) = r.take (sizeR c - 1) := List.take_append_of_le_length (by omega)
      rw [List.cons_append, decR_cons, decR_cons, ht, if_neg (by rw [List.length_append]; omega), if_neg h1]
theorem repairR_app : ∀ (n : Nat) (a b : List UInt8), a.length ≤ n → validR a = true → repairR (a ++ b) = repairR a ++ repairR b := by
  intro n
  induction n with
  | zero =>
    intro a b ha _
    obtain rfl : a = [] := List.eq_nil_of_length_eq_zero (by omega)
    simp [repairR, charsR_nil]
  | succ n ih =>
    intro a b ha hv
    by_cases h : a = []
    · subst h; simp [repairR, charsR_nil]
    · rw [validR_cons a h] at hv
      by_cases hd : (decR a).1 < 0
      · rw [if_pos hd] at hv; cases hv
      · rw [if_neg hd] at hv
        have hp := decR_pos a h
        rw [repairR_cons (a ++ b) (by simp [h]), repairR_cons a h, decR_app b (by omega), List.drop_append_of_le_length hp.2,
          ih (a.drop (decR a).2) b (by rw [List.length_drop]; omega) hv, List.append_assoc]
theorem pctR_false_app (a b : List UInt8) : pctR false (a ++ b) = pctR false a ++ pctR false b := by
  induction a with
  | nil => rfl
  | cons c r ih =>
    have hk : ∀ x : List UInt8, keepB false c x = unresB c := fun x => by simp [keepB]
    simp only [List.cons_append, pctR, hk, ih, List.append_assoc]
/-- Two texts, the first one valid, are encoded one behind the other. -/
theorem encode_app (a b : List UInt8) (h : validR a = true) : pctR false (repairR (a ++ b)) = pctR false (repairR a) ++ pctR false (repairR b) := by
  rw [repairR_app a.length a b (Nat.le_refl _) h, pctR_false_app]
/-- A scheme is what stands ahead of the first : . -/
theorem schemeB_calm {l : List UInt8} (h : (schemeB l).2 = true) : ∃ a rest, l = a ++ 58 :: rest ∧ calm a ∧ (schemeB l).1 = a.map smallB := by
  unfold schemeB at h ⊢
  split at h
  · rename_i h1
    rw [if_pos h1]
    simp only [Bool.and_eq_true, Bool.not_eq_true'] at h1
    have := cutB_back 58 l
    rw [if_pos h1.1] at this
    exact ⟨_, _, this.symm, ⟨cutB_ahead 58 l, h1.2⟩, rfl⟩
  · cases h
theorem filter_scheme (l : List UInt8) (h : (schemeB (filterB l)).2 = true) : allowB (schemeB (filterB l)).1 = true := by
  unfold filterB at h ⊢
  split at h
  · exact absurd h (by decide +kernel)
  · rename_i hn
    rw [if_neg hn]
    obtain ⟨sch, rest, e1, e2, e3⟩ := schemeB_calm h
    obtain ⟨a, b, h1, h2, h3⟩ := normal_scheme l.length l _ rest (Nat.le_refl _) e1 e2
    have hsc : schemeB l = (a.map smallB, true) := by rw [h1]; exact scheme_colon b (calm_plain h2)
    rw [hsc] at hn
    have hn' : allowB (a.map smallB) = true := by simpa using hn
    rw [e3, h3 (allow_letters hn')]
    exact hn'
theorem filter_again (l : List UInt8) : filterB (filterB l) = filterB l := by
  have hs := filter_scheme l
  have hf : filterB l = markerL ∨ filterB l = pctR true (repairR l) := by
    unfold filterB; split
    · exact .inl rfl
    · exact .inr rfl
  have hc : ((schemeB (filterB l)).2 && !allowB (schemeB (filterB l)).1) = false := by
    rcases Bool.eq_false_or_eq_true (schemeB (filterB l)).2 with h | h
    · rw [hs h]; simp
    · rw [h]; rfl
  show (if ((schemeB (filterB l)).2 && !allowB (schemeB (filterB l)).1) = true then markerL else pctR true (repairR (filterB l))) = _
  rw [hc, if_neg Bool.false_ne_true]
  rcases hf with h | h
  · rw [h]; decide +kernel
  · rw [h, normal_again]
end Go.Proofs.YtdnmgpidfjkiaaaDoor
