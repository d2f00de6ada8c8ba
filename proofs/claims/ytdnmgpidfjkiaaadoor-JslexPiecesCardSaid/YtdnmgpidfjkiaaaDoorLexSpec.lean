/-
  PLAIN LAWS: a script's pieces.
-/
import Derived.Test.YtdnmgpidfjkiaaaDoorScanSpec
import Derived.Lib.IndexMore
import Derived.Lib.Strings
namespace Go.Proofs.YtdnmgpidfjkiaaaDoor
set_option linter.unusedVariables false

/-- A piece: its kind, its text, where it stands. -/
structure Pc where
  k : Int
  t : List UInt8
  p : Nat
/-- How many octets are passed up to a text's end, that one too. -/
def endsG (q : UInt8) : List UInt8 → Bool → Bool → Option Nat
  | [], _, _ => none
  | c :: r, esc, cl =>
    if esc then (endsG q r false cl).map (· + 1)
    else if c == 92 then (endsG q r true cl).map (· + 1)
    else if newlB c then none
    else if q == 47 && c == 91 then (endsG q r false true).map (· + 1)
    else if c == 93 then (endsG q r false false).map (· + 1)
    else if c == q && !cl then some 1
    else (endsG q r false cl).map (· + 1)
def outI (i : Nat) : Option Nat → Int
  | none => -1
  | some n => ((i + n : Nat) : Int)
theorem outI_map (i : Nat) (o : Option Nat) : outI i (o.map (· + 1)) = outI (i + 1) o := by
  cases o <;> simp [outI]; omega
def endsI (q : UInt8) (s : List UInt8) (a : Nat) : Int := outI (a + 1) (endsG q (s.drop (a + 1)) false false)
theorem endsG_nil (q : UInt8) (e c : Bool) : endsG q [] e c = none := by unfold endsG; rfl
theorem endsG_cons (q c : UInt8) (r : List UInt8) (esc cl : Bool) : endsG q (c :: r) esc cl =
    if esc then (endsG q r false cl).map (· + 1)
    else if c == 92 then (endsG q r true cl).map (· + 1)
    else if newlB c then none
    else if q == 47 && c == 91 then (endsG q r false true).map (· + 1)
    else if c == 93 then (endsG q r false false).map (· + 1)
    else if c == q && !cl then some 1
    else (endsG q r false cl).map (· + 1) := by rw [endsG]
theorem endsG_le (q : UInt8) (r : List UInt8) : ∀ (e c : Bool) (n : Nat), endsG q r e c = some n → 1 ≤ n ∧ n ≤ r.length := by
  induction r with
  | nil => intro e c n h; rw [endsG_nil] at h; cases h
  | cons x r ih =>
    have step : ∀ (e c : Bool) (n : Nat), (endsG q r e c).map (· + 1) = some n → 1 ≤ n ∧ n ≤ (x :: r).length := by
      intro e c n h
      cases g : endsG q r e c with
      | none => rw [g] at h; cases h
      | some m =>
        rw [g] at h
        have := ih e c m g
        simp at h
        simp; omega
    intro e c n h
    rw [endsG_cons] at h
    split at h
    · exact step _ _ _ h
    · split at h
      · exact step _ _ _ h
      · split at h
        · cases h
        · split at h
          · exact step _ _ _ h
          · split at h
            · exact step _ _ _ h
            · split at h
              · simp at h; subst h; simp
              · exact step _ _ _ h
theorem endsI_range (q : UInt8) (s : List UInt8) (a : Nat) (ha : a < s.length) : endsI q s a = -1 ∨ ((a : Int) + 1 < endsI q s a ∧ endsI q s a ≤ s.length) := by
  unfold endsI
  cases g : endsG q (s.drop (a + 1)) false false with
  | none => exact .inl rfl
  | some n =>
    have := endsG_le q _ _ _ n g
    simp at this
    right
    simp [outI]; omega
/-- May a value come behind what was cut? -/
def freshB (P : List Pc) : Bool :=
  match P.getLast? with
  | none => true
  | some p => if p.k = 1 then wordsL.any (· == p.t) else if p.k = 2 ∨ p.k = 3 then false else if p.k = 5 then !(Lib.contains [41, 93, 125] p.t) else true
def wordE (s : List UInt8) (a : Nat) : Nat := a + ((s.drop a).takeWhile wordyB).length
/-- A piece's kind, and where it ends (where remarks end: somewhere). -/
def oneR (s : List UInt8) (P : List Pc) (a : Nat) (c : UInt8) (k to : Int) : Prop :=
  if wordyB c then k = 1 ∧ to = wordE s a
  else if c == 34 || c == 39 then k = 2 ∧ to = endsI c s a
  else if c == 47 then
    (if Lib.hasPrefix (s.drop a) [47, 47] || Lib.hasPrefix (s.drop a) [47, 42] then k = 4 ∧ (to = -1 ∨ ((a : Int) < to ∧ to ≤ s.length))
     else if freshB P then k = 3 ∧ to = endsI 47 s a else k = 5 ∧ to = (a : Int) + 1)
  else if c == 96 then k = 5 ∧ to = -1
  else k = 5 ∧ to = (a : Int) + 1
theorem wordE_range (s : List UInt8) (a : Nat) (c : UInt8) (hc : s[a]? = some c) (hw : wordyB c = true) : a < wordE s a ∧ wordE s a ≤ s.length := by
  have hlt : a < s.length := by
    rcases Nat.lt_or_ge a s.length with h | h
    · exact h
    · rw [List.getElem?_eq_none h] at hc; cases hc
  have hd : s.drop a = c :: s.drop (a + 1) := by
    rw [List.drop_eq_getElem_cons hlt]
    rw [List.getElem?_eq_getElem hlt] at hc
    injection hc with hc; rw [hc]
  unfold wordE
  have h2 : ((s.drop a).takeWhile wordyB).length ≤ (s.drop a).length := (List.takeWhile_sublist _).length_le
  rw [hd, List.takeWhile_cons_of_pos hw] at *
  simp at h2 ⊢
  omega
theorem oneR_range {s : List UInt8} {P : List Pc} {a : Nat} {c : UInt8} {k to : Int} (hc : s[a]? = some c) (h : oneR s P a c k to) : (1 ≤ k ∧ k ≤ 5) ∧ (to = -1 ∨ ((a : Int) < to ∧ to ≤ s.length)) := by
  have hlt : a < s.length := by
    rcases Nat.lt_or_ge a s.length with h | h
    · exact h
    · rw [List.getElem?_eq_none h] at hc; cases hc
  unfold oneR at h
  split at h
  next hw =>
    obtain ⟨rfl, rfl⟩ := h
    have := wordE_range s a c hc hw
    exact ⟨by omega, .inr (by omega)⟩
  next =>
    split at h
    next =>
      obtain ⟨rfl, rfl⟩ := h
      have := endsI_range c s a hlt
      exact ⟨by omega, by omega⟩
    next =>
      split at h
      next =>
        split at h
        next => exact ⟨by omega, h.2⟩
        next =>
          split at h
          next =>
            obtain ⟨rfl, rfl⟩ := h
            have := endsI_range 47 s a hlt
            exact ⟨by omega, by omega⟩
          next => exact ⟨by omega, .inr (by omega)⟩
      next =>
        split at h
        next => exact ⟨by omega, .inl h.2⟩
        next => exact ⟨by omega, .inr (by omega)⟩
/-- What holds at the start and from round to round holds at this place, with these pieces cut. -/
def Came (s : List UInt8) (a : Nat) (P : List Pc) : Prop :=
  ∀ Q : Nat → List Pc → Prop, Q 0 [] →
    (∀ a P c, Q a P → s[a]? = some c → isBlank c = true → Q (a + 1) P) →
    (∀ a P c k (to : Nat), Q a P → s[a]? = some c → isBlank c = false → oneR s P a c k (to : Int) → P.length < 4096 → Q to (P ++ [⟨k, (s.take to).drop a, a⟩])) →
    Q a P
theorem Came.start (s : List UInt8) : Came s 0 [] := fun Q h _ _ => h
theorem Came.blank {s : List UInt8} {a : Nat} {P : List Pc} {c : UInt8} (h : Came s a P) (hc : s[a]? = some c) (hb : isBlank c = true) : Came s (a + 1) P :=
  fun Q h0 h1 h2 => h1 a P c (h Q h0 h1 h2) hc hb
theorem Came.one {s : List UInt8} {a : Nat} {P : List Pc} {c : UInt8} {k : Int} {to : Nat} (h : Came s a P) (hc : s[a]? = some c) (hb : isBlank c = false) (ho : oneR s P a c k (to : Int)) (hn : P.length < 4096) : Came s to (P ++ [⟨k, (s.take to).drop a, a⟩]) :=
  fun Q h0 h1 h2 => h2 a P c k to (h Q h0 h1 h2) hc hb ho hn
/-- What Pieces tells: the pieces, a place, an error. -/
def Told (s : List UInt8) (P : List Pc) (n e : Int) : Prop :=
  (65536 < s.length ∧ P = [] ∧ n = 0 ∧ e = 5) ∨
  (s.length ≤ 65536 ∧ Came s s.length P ∧ n = s.length ∧ e = 0) ∨
  (s.length ≤ 65536 ∧ P = [] ∧ ∃ a c R k to, Came s a R ∧ s[a]? = some c ∧ isBlank c = false ∧ oneR s R a c k to ∧ n = (a : Nat) ∧ ((to < 0 ∧ e = 33) ∨ (0 ≤ to ∧ 4096 ≤ R.length ∧ e = 3)))
end Go.Proofs.YtdnmgpidfjkiaaaDoor
