/-
  PLAIN LAWS of many texts, in one.
-/
import Derived.Test.YtdnmgpidfjkiaaaDoorM2
import Derived.Test.YtdnmgpidfjkiaaaDoorM1
namespace Go.Proofs.YtdnmgpidfjkiaaaDoor
set_option linter.unusedVariables false
set_option linter.unusedSimpArgs false

/-- Behind a value. -/
def Behind (p : Pos) : Prop := p.1 = 1 ∧ endedB 1 p.2 = 1
theorem Behind.step {p : Pos} (h : Behind p) (c : UInt8) (hc : wordyB c = false) : stepB p c = (signB 1 c, []) := by
  obtain ⟨n, w⟩ := p
  obtain ⟨h1, h2⟩ := h
  simp only at h1 h2
  subst h1
  show codeB 1 w c = _
  unfold codeB
  rw [hc, h2]; rfl
theorem step_code {p : Nat} (hp : p = 0 ∨ p = 1) (w : List UInt8) (c : UInt8) : stepB (p, w) c = codeB p w c := by
  rcases hp with rfl | rfl <;> rfl
theorem step_sign {p : Nat} (hp : p = 0 ∨ p = 1) (c : UInt8) (hc : wordyB c = false) : stepB (p, []) c = (signB p c, []) := by
  rw [step_code hp]
  unfold codeB
  rw [hc]
  have : endedB p [] = p := by unfold endedB; simp
  rw [this]; rfl
theorem feed_wordy (c0 : UInt8) : ∀ (l w : List UInt8), l.all wordyB = true → w.head? = some c0 → ∃ w', feedB (1, w) l = (1, w') ∧ w'.head? = some c0 := by
  intro l
  induction l with
  | nil => intro w _ h; exact ⟨w, rfl, h⟩
  | cons c l ih =>
    intro w hall h
    simp only [List.all_cons, Bool.and_eq_true] at hall
    rw [feedB_cons]
    have hs : stepB (1, w) c = (1, if w.length < 16 then w ++ [c] else w) := by
      show codeB 1 w c = _
      unfold codeB; rw [hall.1]; rfl
    rw [hs]
    refine ih _ hall.2 ?_
    split
    · cases w with
      | nil => simp at h
      | cons a w => simpa using h
    · exact h
theorem feed_number {p : Nat} (hp : p = 0 ∨ p = 1) (l : List UInt8) (h0 : l ≠ []) (h : l.all isDig = true) : Behind (feedB (p, []) l) := by
  cases l with
  | nil => exact absurd rfl h0
  | cons c l =>
    simp only [List.all_cons, Bool.and_eq_true] at h
    have hwd : ∀ x : UInt8, isDig x = true → wordyB x = true := fun x hx => by unfold wordyB; rw [hx]; simp
    have hs : stepB (p, []) c = (1, [c]) := by
      rw [step_code hp]
      unfold codeB; rw [hwd c h.1]; rfl
    rw [feedB_cons, hs]
    obtain ⟨w, hw, hh⟩ := feed_wordy c l [c] (List.all_eq_true.2 fun x hx => hwd x (List.all_eq_true.1 h.2 x hx)) rfl
    rw [hw]
    refine ⟨rfl, ?_⟩
    show endedB 1 w = 1
    unfold endedB
    have hno : wordsL.any (· == w) = false := by
      rw [List.any_eq_false]
      intro x hx
      have hd : ∀ y ∈ wordsL, (y.head?.map isDig) = some false := by decide
      have := hd x hx
      intro he
      have he : x = w := by simpa using he
      subst he
      rw [hh] at this
      simp at this
      rw [this] at h
      exact absurd h.1 (by simp)
    rw [hno]; simp
theorem pInt_digits (n : Int) : (0 ≤ n → (pInt n).all isDig = true ∧ pInt n ≠ []) ∧ (n < 0 → ∃ l, pInt n = 45 :: l ∧ l.all isDig = true ∧ l ≠ []) := by
  constructor
  · intro h
    unfold pInt
    rw [if_neg (by omega)]
    exact ⟨decs_all _, decs_ne _⟩
  · intro h
    unfold pInt
    rw [if_pos h]
    exact ⟨_, rfl, decs_all _, decs_ne _⟩
theorem feed_text {p : Nat} (hp : p = 0 ∨ p = 1) (s : List UInt8) : feedB (p, []) (quoteL s) = (1, []) := by
  unfold quoteL
  rw [feedB_cons, step_sign hp 34 (by decide)]
  have : signB p 34 = 2 := by rcases hp with rfl | rfl <;> decide
  rw [this, feedB_app]
  have h1 := feed_esc 2 (.inl rfl) (charsR s) []
  show feedB (feedB (2, []) ((charsR s).flatMap quoteI)) [34] = _
  generalize feedB (2, []) ((charsR s).flatMap quoteI) = q at h1
  obtain ⟨n, v⟩ := q
  simp only at h1
  subst h1
  rfl
theorem bodyC_feed (key : Nat → List UInt8) (hkey : ∀ i, key i = [] ∨ ∃ k, key i = quoteL k ++ [58]) : ∀ (ps : List (List UInt8)) (j : Nat) (q : Pos), (∀ p ∈ ps, ∀ a, a = 0 ∨ a = 1 → Behind (feedB (a, []) p)) → ps ≠ [] → (j = 0 ∧ q = (0, []) ∨ 0 < j ∧ Behind q) → Behind (feedB q (bodyC key j ps)) := by
  intro ps
  induction ps with
  | nil => intro j q _ h; exact absurd rfl h
  | cons p r ih =>
    intro j q hp _ hq
    have h1 : feedB q (if j = 0 then [] else [44]) = (0, []) := by
      rcases hq with ⟨rfl, rfl⟩ | ⟨hj, hb⟩
      · rfl
      · rw [if_neg (by omega), feedB_cons, hb.step 44 (by decide)]; rfl
    have h2 : feedB (0, []) (key j) = (0, []) := by
      rcases hkey j with h | ⟨k, h⟩
      · rw [h]; rfl
      · rw [h, feedB_app, feed_text (.inl rfl)]; rfl
    have h3 : Behind (feedB (0, []) p) := hp p (List.mem_cons_self ..) 0 (.inl rfl)
    unfold bodyC
    rw [feedB_app, feedB_app, feedB_app, h1, h2]
    cases r with
    | nil => exact h3
    | cons p2 r2 => exact ih (j + 1) _ (fun x hx => hp x (List.mem_cons_of_mem _ hx)) (by simp) (.inr ⟨by omega, h3⟩)
theorem keyC_form (ks : List (List UInt8)) (i : Nat) : keyC ks i = [] ∨ ∃ k, keyC ks i = quoteL k ++ [58] := by
  unfold keyC
  split
  · exact .inr ⟨_, rfl⟩
  · exact .inl rfl
/-- A literal leads from where a value may come, or from behind one, to behind one. -/
theorem lit_feed : ∀ (n : Nat) (d : VT n) (a : Nat), 1 ≤ n → a = 0 ∨ a = 1 → Behind (feedB (a, []) (litR n d)) := by
  intro n
  induction n with
  | zero => intro d a h; omega
  | succ n ih =>
    intro d a _ ha
    obtain ⟨k, i, s, l, ks⟩ := d
    rw [lit_mk]
    have many : ∀ (o c : UInt8) (key : Nat → List UInt8), (∀ i, key i = [] ∨ ∃ k, key i = quoteL k ++ [58]) → wordyB o = false → wordyB c = false → (∀ p, p = 0 ∨ p = 1 → signB p o = 0) → signB 0 c = 1 → signB 1 c = 1 → Behind (feedB (a, []) (o :: (bodyC key 0 (l.map (litR n)) ++ [c]))) := by
      intro o c key hkey ho hc hso hc0 hc1
      rw [feedB_cons, step_sign ha o ho, hso a ha, feedB_app]
      cases l with
      | nil =>
        show Behind (feedB (0, []) [c])
        rw [feedB_cons, step_sign (.inl rfl) c hc, hc0]
        exact ⟨rfl, by decide⟩
      | cons x r =>
        have hb := bodyC_feed key hkey ((x :: r).map (litR n)) 0 (0, []) (fun p hp a ha => by
          obtain ⟨y, _, rfl⟩ := List.mem_map.1 hp
          cases n with
          | zero => exact y.elim
          | succ n => exact ih y a (by omega) ha) (by simp) (.inl ⟨rfl, rfl⟩)
        rw [feedB_cons, hb.step c hc, hc1]
        exact ⟨rfl, by decide⟩
    split
    · rcases ha with rfl | rfl <;> exact ⟨by decide, by decide⟩
    split
    · rcases ha with rfl | rfl <;> exact ⟨by decide, by decide⟩
    split
    · rcases ha with rfl | rfl <;> exact ⟨by decide, by decide⟩
    split
    · split
      · rename_i h
        obtain ⟨dl, he, h1, h2⟩ := (pInt_digits i).2 h
        rw [he, feedB_cons, step_sign ha 32 (by decide), feedB_cons]
        have hs : signB a 32 = a := by rcases ha with rfl | rfl <;> decide
        rw [hs, step_sign ha 45 (by decide)]
        have h0 : signB a 45 = 0 := by rcases ha with rfl | rfl <;> decide
        rw [h0]
        exact feed_number (.inl rfl) dl h2 h1
      · rename_i h
        obtain ⟨h1, h2⟩ := (pInt_digits i).1 (by omega)
        exact feed_number ha _ h2 h1
    split
    · rw [partsL_none]
      exact many 91 93 _ (fun i => .inl rfl) (by decide) (by decide) (fun p hp => by rcases hp with rfl | rfl <;> decide) (by decide) (by decide)
    split
    · rw [partsL_some]
      exact many 123 125 _ (keyC_form ks) (by decide) (by decide) (fun p hp => by rcases hp with rfl | rfl <;> decide) (by decide) (by decide)
    · rw [feed_text ha]
      exact ⟨rfl, by decide⟩
/-- Blanks around. -/
theorem lit_around {n : Nat} (d : VN (VT n)) (a : Nat) (ha : a = 0 ∨ a = 1) (word : List UInt8) : feedB (a, word) (32 :: (litR (n + 1) d ++ [32])) = (1, []) := by
  rw [feedB_cons, feedB_app]
  have hs : ∃ b, (b = 0 ∨ b = 1) ∧ stepB (a, word) 32 = (b, []) := by
    rw [step_code ha]
    unfold codeB
    rw [if_neg (by decide)]
    refine ⟨_, ?_, rfl⟩
    have : signB (endedB a word) 32 = endedB a word := by unfold signB; rw [if_pos (by decide)]
    rw [this]
    unfold endedB
    split
    · exact .inl rfl
    · exact ha
  obtain ⟨b, hb, he⟩ := hs
  rw [he]
  have h := lit_feed (n + 1) d b (by omega) hb
  rw [feedB_cons, h.step 32 (by decide)]
  rfl
end Go.Proofs.YtdnmgpidfjkiaaaDoor

namespace Go.Proofs.YtdnmgpidfjkiaaaDoor
set_option linter.unusedVariables false

/-- A script of blanks, words, signs and texts, of which each text is of G. -/
inductive LexT (G : List UInt8 → Prop) : List UInt8 → Prop
  | nil : LexT G []
  | blank (c : UInt8) (r : List UInt8) (hb : isBlank c = true) (h : LexT G r) : LexT G (c :: r)
  | word (l r : List UInt8) (h0 : l ≠ []) (hl : l.all wordyB = true) (hr : r.takeWhile wordyB = []) (h : LexT G r) : LexT G (l ++ r)
  | sign (c : UInt8) (r : List UInt8) (hw : wordyB c = false) (hb : isBlank c = false) (hq : (c == 34 || c == 39) = false) (hs : (c == 47) = false) (ht : (c == 96) = false) (h : LexT G r) : LexT G (c :: r)
  | text (x r : List UInt8) (hx : G x) (h : LexT G r) : LexT G (quoteL x ++ r)
theorem blank_wordy {c : UInt8} (h : isBlank c = true) : wordyB c = false := by
  have := allBytes (fun c => !(isBlank c) || !(wordyB c)) (by decide +kernel) c
  rw [h] at this
  simpa using this
theorem lex_step {G : List UInt8 → Prop} {s : List UInt8} {R : List Pc} {a : Nat} {c : UInt8} {k zz : Int} (h : LexT G (s.drop a)) (hc : s[a]? = some c) (hb : isBlank c = false) (ho : oneR s R a c k zz) :
    ∃ n : Nat, zz = n ∧ LexT G (s.drop n) ∧ k ≠ 3 ∧ k ≠ 4 ∧ (k = 2 → ∃ x, G x ∧ (s.take n).drop a = quoteL x) := by
  have hlt := some_lt hc
  have hd : s.drop a = c :: s.drop (a + 1) := by
    rw [List.drop_eq_getElem_cons hlt]
    rw [List.getElem?_eq_getElem hlt] at hc
    injection hc with hc; rw [hc]
  have hcut : ∀ n m : List UInt8, s.drop a = n ++ m → s.drop (a + n.length) = m ∧ (s.take (a + n.length)).drop a = n := by
    intro n m e
    constructor
    · rw [← List.drop_drop, e, List.drop_left]
    · rw [List.drop_take, e, Nat.add_sub_cancel_left, List.take_left]
  generalize hu : s.drop a = u at h hcut
  cases h with
  | nil => rw [hd] at hu; cases hu
  | blank c' r hb' h =>
    rw [hd] at hu
    injection hu with e _
    rw [e, hb'] at hb; cases hb
  | word l r h0 hl hr h =>
    obtain ⟨h1, h2⟩ := hcut l r rfl
    have hw : wordyB c = true := by
      cases l with
      | nil => exact absurd rfl h0
      | cons x l =>
        rw [hd] at hu
        injection hu with e _
        rw [List.all_cons, Bool.and_eq_true] at hl
        rw [e]; exact hl.1
    unfold oneR at ho
    rw [if_pos hw] at ho
    obtain ⟨rfl, rfl⟩ := ho
    have hn : wordE s a = a + l.length := by
      unfold wordE
      rw [hu, List.takeWhile_append_of_pos (List.all_eq_true.1 hl), hr, List.append_nil]
    rw [hn]
    exact ⟨_, rfl, by rw [h1]; exact h, by decide, by decide, fun e => absurd e (by decide)⟩
  | sign c' r hw hb' hq hs ht h =>
    obtain ⟨h1, h2⟩ := hcut [c'] r rfl
    rw [hd] at hu
    injection hu with e _
    subst e
    unfold oneR at ho
    rw [if_neg (by simp [hw]), if_neg (by simp [hq]), if_neg (by simp [hs]), if_neg (by simp [ht])] at ho
    obtain ⟨rfl, rfl⟩ := ho
    exact ⟨a + 1, by omega, by rw [show a + 1 = a + [c].length from rfl, h1]; exact h, by decide, by decide, fun e => absurd e (by decide)⟩
  | text x r hx h =>
    obtain ⟨h1, h2⟩ := hcut (quoteL x) r rfl
    have hu2 := hu
    rw [hd] at hu
    have hu' : c :: s.drop (a + 1) = 34 :: (escR x ++ 34 :: r) := by rw [hu]; unfold quoteL; simp
    injection hu' with e e2
    subst e
    unfold oneR at ho
    rw [if_neg (by decide), if_pos (by decide)] at ho
    obtain ⟨rfl, rfl⟩ := ho
    have hto : endsI 34 s a = ((a + (quoteL x).length : Nat) : Int) := by
      unfold endsI
      rw [e2, esc_ends 34 (.inl rfl)]
      unfold quoteL outI
      simp; omega
    exact ⟨_, hto, by rw [h1]; exact h, by decide, by decide, fun _ => ⟨x, hx, h2⟩⟩
theorem lex_blank {G : List UInt8 → Prop} {s : List UInt8} {a : Nat} {c : UInt8} (h : LexT G (s.drop a)) (hc : s[a]? = some c) (hb : isBlank c = true) : LexT G (s.drop (a + 1)) := by
  have hlt := some_lt hc
  have hd : s.drop a = c :: s.drop (a + 1) := by
    rw [List.drop_eq_getElem_cons hlt]
    rw [List.getElem?_eq_getElem hlt] at hc
    injection hc with hc; rw [hc]
  generalize hu : s.drop a = u at h
  cases h with
  | nil => rw [hd] at hu; cases hu
  | blank c' r hb' h =>
    rw [hd] at hu
    injection hu with _ e
    rw [e]; exact h
  | word l r h0 hl hr h =>
    exfalso
    cases l with
    | nil => exact absurd rfl h0
    | cons x l =>
      rw [hd] at hu
      injection hu with e _
      rw [List.all_cons, Bool.and_eq_true] at hl
      rw [e, ] at hb
      rw [blank_wordy hb] at hl
      cases hl.1
  | sign c' r hw hb' hq hs ht h =>
    rw [hd] at hu
    injection hu with e _
    rw [e, hb'] at hb; cases hb
  | text x r hx h =>
    rw [hd] at hu
    have hu' : c :: s.drop (a + 1) = 34 :: (escR x ++ 34 :: r) := by rw [hu]; unfold quoteL; simp
    injection hu' with e _
    rw [e] at hb
    exact absurd hb (by decide)
/-- Each piece of such a script. -/
def GoodPc (G : List UInt8 → Prop) (p : Pc) : Prop := p.k ≠ 3 ∧ p.k ≠ 4 ∧ (p.k = 2 → ∃ x, G x ∧ p.t = quoteL x)
theorem lex_came {G : List UInt8 → Prop} {s : List UInt8} (h : LexT G s) {a : Nat} {P : List Pc} (hc : Came s a P) : LexT G (s.drop a) ∧ ∀ p ∈ P, GoodPc G p := by
  refine hc (fun a P => LexT G (s.drop a) ∧ ∀ p ∈ P, GoodPc G p) ⟨h, fun p hp => (by cases hp)⟩ ?_ ?_
  · rintro a P c ⟨h1, h2⟩ hc hb
    exact ⟨lex_blank h1 hc hb, h2⟩
  · rintro a P c k zz ⟨h1, h2⟩ hc hb ho _
    obtain ⟨n, hn, h3, h4, h5, h6⟩ := lex_step h1 hc hb ho
    obtain rfl : zz = n := by omega
    refine ⟨h3, fun p hp => ?_⟩
    rcases List.mem_append.1 hp with hp | hp
    · exact h2 p hp
    · obtain rfl := List.mem_singleton.1 hp
      exact ⟨h4, h5, h6⟩
theorem lex_told {G : List UInt8 → Prop} {s : List UInt8} (h : LexT G s) {P : List Pc} {n e : Int} (ht : Told s P n e) (hl : s.length ≤ 65536) : (∀ p ∈ P, GoodPc G p) ∧ (e = 0 ∨ e = 3) := by
  rcases ht with ⟨h1, _⟩ | ⟨_, hc, _, rfl⟩ | ⟨_, rfl, a, c, R, k, zz, hc, hx, hb, ho, _, he⟩
  · omega
  · exact ⟨(lex_came h hc).2, .inl rfl⟩
  · refine ⟨fun p hp => (by cases hp), ?_⟩
    obtain ⟨n, hn, _⟩ := lex_step (lex_came h hc).1 hx hb ho
    rcases he with ⟨h1, _⟩ | ⟨_, _, h2⟩
    · omega
    · exact .inr h2
/-- Is a text one of a value's, or a key? -/
def saysV : (n : Nat) → VT n → List UInt8 → Bool
  | 0, _, _ => false
  | n + 1, d, t => (decide (VN.k d = 4) && repairR (VN.s d) == t) || ((VN.ks d).any (· == t) || (VN.l d).any fun x => saysV n x t)
theorem saysV_mk {n : Nat} (k i : Int) (s : List UInt8) (l : List (VT n)) (ks : List (List UInt8)) (t : List UInt8) :
    saysV (n + 1) (⟨k, i, s, l, ks⟩ : VN (VT n)) t = ((decide (k = 4) && repairR s == t) || (ks.any (· == t) || l.any fun x => saysV n x t)) := rfl
theorem LexT.mono {G H : List UInt8 → Prop} (hGH : ∀ x, G x → H x) {s : List UInt8} (h : LexT G s) : LexT H s := by
  induction h with
  | nil => exact .nil
  | blank c r hb _ ih => exact .blank c r hb ih
  | word l r h0 hl hr _ ih => exact .word l r h0 hl hr ih
  | sign c r hw hb hq hs ht _ ih => exact .sign c r hw hb hq hs ht ih
  | text x r hx _ ih => exact .text x r (hGH x hx) ih
/-- Put ahead of a script, it is a script. -/
def Ahead (G : List UInt8 → Prop) (p : List UInt8) : Prop := ∀ r, r.takeWhile wordyB = [] → LexT G r → LexT G (p ++ r)
theorem stop_cons {c : UInt8} (h : wordyB c = false) (r : List UInt8) : (c :: r).takeWhile wordyB = [] := by rw [List.takeWhile_cons, h]; rfl
theorem body_ahead {G : List UInt8 → Prop} (key : Nat → List UInt8) (hkey : ∀ i, key i = [] ∨ ∃ k, G k ∧ key i = quoteL k ++ [58]) : ∀ (ps : List (List UInt8)) (j : Nat), (∀ p ∈ ps, Ahead G p) → Ahead G (bodyC key j ps) ∧ (0 < j → ∀ r, r.takeWhile wordyB = [] → (bodyC key j ps ++ r).takeWhile wordyB = []) := by
  intro ps
  induction ps with
  | nil => intro j _; exact ⟨fun r _ h => h, fun _ r h => h⟩
  | cons p q ih =>
    intro j hp
    obtain ⟨h1, h2⟩ := ih (j + 1) (fun x hx => hp x (List.mem_cons_of_mem _ hx))
    refine ⟨fun r hr h => ?_, fun hj r hr => ?_⟩
    · have h3 := hp p (List.mem_cons_self ..) _ (h2 (by omega) r hr) (h1 r hr h)
      have h4 : LexT G (key j ++ (p ++ (bodyC key (j + 1) q ++ r))) := by
        rcases hkey j with e | ⟨k, hk, e⟩
        · rw [e]; exact h3
        · rw [e, List.append_assoc]
          exact .text k _ hk (.sign 58 _ (by decide) (by decide) (by decide) (by decide) (by decide) h3)
      unfold bodyC
      by_cases h0 : j = 0
      · rw [if_pos h0]; simpa using h4
      · rw [if_neg h0]
        simpa using LexT.sign 44 _ (by decide) (by decide) (by decide) (by decide) (by decide) h4
    · unfold bodyC
      rw [if_neg (by omega)]
      simp only [List.append_assoc, List.cons_append]
      exact stop_cons (by decide) _
theorem word_ahead {G : List UInt8 → Prop} (l : List UInt8) (h0 : l ≠ []) (hl : l.all wordyB = true) : Ahead G l := fun r hr h => .word l r h0 hl hr h
theorem dig_wordy {l : List UInt8} (h : l.all isDig = true) : l.all wordyB = true := by
  rw [List.all_eq_true] at h ⊢
  intro c hc
  unfold wordyB
  simp [h c hc]
theorem massP_list {n : Nat} {k i : Int} {s : List UInt8} {l : List (VT n)} {ks : List (List UInt8)} (x : VT n) (hx : x ∈ l) : massV n x ≤ massV (n + 1) (⟨k, i, s, l, ks⟩ : VN (VT n)) := by
  have := sumBy_mem (massV n) l x hx
  rw [massV_succ]; simp only; omega
theorem massP_key {n : Nat} {k i : Int} {s : List UInt8} {l : List (VT n)} {ks : List (List UInt8)} (x : List UInt8) (hx : x ∈ ks) : x.length ≤ massV (n + 1) (⟨k, i, s, l, ks⟩ : VN (VT n)) := by
  have := sumBy_mem (fun k : List UInt8 => k.length + 1) ks x hx
  rw [massV_succ]; simp only at this ⊢; omega
theorem massP_text {n : Nat} {k i : Int} {s : List UInt8} {l : List (VT n)} {ks : List (List UInt8)} : s.length ≤ massV (n + 1) (⟨k, i, s, l, ks⟩ : VN (VT n)) := by
  rw [massV_succ]; simp only; omega
theorem lit_ahead : ∀ (n deep : Nat) (d : VT n) (G : List UInt8 → Prop), checkV n deep d = 0 → plainV n d = true → (∀ x, saysV n d (repairR x) = true → x.length ≤ massV n d → G x) → 1 ≤ n → Ahead G (litR n d) := by
  intro n
  induction n with
  | zero => intro deep d G _ _ _ h; omega
  | succ n ih =>
    intro deep d G hc hp hG _
    obtain ⟨k, i, s, l, ks⟩ := d
    obtain ⟨hh, hl⟩ := check_parts hc
    rw [plainV_mk, Bool.and_eq_true, decide_eq_true_eq, List.all_eq_true] at hp
    obtain ⟨hpl, hk7⟩ := hp
    rw [lit_mk]
    have hps : ∀ p ∈ l.map (litR n), Ahead G p := by
      intro p hp
      obtain ⟨x, hx, rfl⟩ := List.mem_map.1 hp
      cases n with
      | zero => exact x.elim
      | succ n =>
        refine ih (deep + 1) x G (hl x hx) (hpl x hx) (fun y hy hm => hG y ?_ (Nat.le_trans hm (massP_list x hx))) (by omega)
        rw [saysV_mk]
        have : (l.any fun x => saysV (n + 1) x (repairR y)) = true := List.any_eq_true.2 ⟨x, hx, hy⟩
        rw [this]; simp
    have many : ∀ (o c : UInt8) (key : Nat → List UInt8), (∀ i, key i = [] ∨ ∃ k, G k ∧ key i = quoteL k ++ [58]) → wordyB o = false → wordyB c = false → isBlank o = false → isBlank c = false → (o == 34 || o == 39) = false → (o == 47) = false → (o == 96) = false → (c == 34 || c == 39) = false → (c == 47) = false → (c == 96) = false →
        Ahead G (o :: (bodyC key 0 (l.map (litR n)) ++ [c])) := by
      intro o c key hkey ho hcw hob hcb o1 o2 o3 c1 c2 c3 r hr h
      have hb := (body_ahead key hkey (l.map (litR n)) 0 hps).1 (c :: r) (stop_cons hcw r) (.sign c r hcw hcb c1 c2 c3 h)
      have := LexT.sign (G := G) o _ ho hob o1 o2 o3 hb
      simpa using this
    split
    · exact word_ahead _ (by decide) (by decide)
    split
    · exact word_ahead _ (by decide) (by decide)
    split
    · exact word_ahead _ (by decide) (by decide)
    split
    · split
      · rename_i h
        obtain ⟨dl, he, h1, h2⟩ := (pInt_digits i).2 h
        rw [he]
        intro r hr h
        exact .blank 32 _ (by decide) (.sign 45 _ (by decide) (by decide) (by decide) (by decide) (by decide) (.word dl r h2 (dig_wordy h1) hr h))
      · rename_i h
        obtain ⟨h1, h2⟩ := (pInt_digits i).1 (by omega)
        exact word_ahead _ h2 (dig_wordy h1)
    split
    · rw [partsL_none]
      exact many 91 93 _ (fun i => .inl rfl) (by decide) (by decide) (by decide) (by decide) (by decide) (by decide) (by decide) (by decide) (by decide) (by decide)
    split
    · rename_i h6
      rw [partsL_some]
      refine many 123 125 _ (fun j => ?_) (by decide) (by decide) (by decide) (by decide) (by decide) (by decide) (by decide) (by decide) (by decide) (by decide)
      unfold keyC
      split
      · rename_i kk hj
        have hmem := List.mem_of_getElem? hj
        refine .inr ⟨_, hG _ ?_ (massP_key kk hmem), rfl⟩
        have hris : risingK ks = true := by
          subst h6
          unfold headErr at hh
          rcases Bool.eq_false_or_eq_true (risingK ks) with h | h
          · exact h
          · rw [h] at hh
            repeat (split at hh; · omega)
            rename_i h9
            exact absurd ⟨rfl, .inr rfl⟩ h9
        have hnm : isName kk = true := by
          obtain ⟨j2, hj2, e⟩ := List.getElem_of_mem hmem
          have h1 := List.all_eq_true.1 hris j2 (List.mem_range.2 hj2)
          have hx : ks[j2]? = some kk := by rw [List.getElem?_eq_getElem hj2, e]
          unfold upAt at h1
          rw [hx] at h1
          simp only [Bool.and_eq_true] at h1
          exact h1.1
        rw [repairR_ascii (name_ascii hnm), saysV_mk]
        have : (ks.any (· == kk)) = true := List.any_eq_true.2 ⟨kk, hmem, by simp⟩
        rw [this]; simp
      · exact .inl rfl
    · rename_i h0 h1 h2 h3 h5 h6
      have h4 : k = 4 := by
        unfold headErr at hh
        repeat (split at hh; · omega)
        omega
      refine fun r hr h => .text s r (hG s ?_ massP_text) h
      rw [saysV_mk, h4]; simp
theorem spec_lex {n : Nat} (d : VN (VT n)) (hc : checkV (n + 1) 0 d = 0) (hp : plainV (n + 1) d = true) : LexT (fun x => saysV (n + 1) d (repairR x) = true ∧ x.length ≤ massV (n + 1) d) (32 :: (litR (n + 1) d ++ [32])) :=
  .blank 32 _ (by decide) (lit_ahead (n + 1) 0 d _ hc hp (fun x h h2 => ⟨h, h2⟩) (by omega) [32] (by decide) (.blank 32 [] (by decide) .nil))
end Go.Proofs.YtdnmgpidfjkiaaaDoor
