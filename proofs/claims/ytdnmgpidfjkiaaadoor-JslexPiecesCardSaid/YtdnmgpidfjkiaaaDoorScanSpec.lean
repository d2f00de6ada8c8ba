/-
  PLAIN LAWS: where in a script.
-/
import Derived.Test.YtdnmgpidfjkiaaaDoorJsSpec
namespace Go.Proofs.YtdnmgpidfjkiaaaDoor
set_option linter.unusedVariables false

def wordyB (c : UInt8) : Bool := isLetter c || (isDig c || (c == 95 || (c == 36 || decide (127 < c.toNat))))
def newlB (c : UInt8) : Bool := c == 10 || c == 13
/-- The words behind which a value may come. -/
def wordsL : List (List UInt8) :=
  [[114, 101, 116, 117, 114, 110], [116, 121, 112, 101, 111, 102], [99, 97, 115, 101], [105, 110], [111, 102], [100, 101, 108, 101, 116, 101], [118, 111, 105, 100], [116, 104, 114, 111, 119], [110, 101, 119], [101, 108, 115, 101], [100, 111], [105, 110, 115, 116, 97, 110, 99, 101, 111, 102]]
def endedB (part : Nat) (word : List UInt8) : Nat := if !(word == []) && wordsL.any (· == word) then 0 else part
def blankB (c : UInt8) : Bool := c == 32 || (c == 9 || (c == 10 || (c == 12 || c == 13)))
abbrev Pos := Nat × List UInt8
/-- The sign behind a word that has ended. -/
def signB (p : Nat) (c : UInt8) : Nat :=
  if blankB c then p else if c == 34 then 2 else if c == 39 then 3 else if c == 96 then 15
  else if c == 47 then (if p == 0 then 13 else 14) else if c == 41 || (c == 93 || c == 125) then 1 else 0
def codeB (part : Nat) (word : List UInt8) (c : UInt8) : Pos :=
  if wordyB c then (1, if word.length < 16 then word ++ [c] else word) else (signB (endedB part word) c, [])
def quotedB (part : Nat) (c : UInt8) : Nat :=
  if c == (if part == 3 then 39 else 34) then 1 else if c == 92 then (if part == 3 then 5 else 4) else if newlB c then 15 else part
def matchedB (part : Nat) (c : UInt8) : Nat :=
  if newlB c then 15 else if c == 92 then part + 1 else if part == 9 && c == 47 then 1 else if part == 9 && c == 91 then 11 else if part == 11 && c == 93 then 9 else part
def remarkB (part : Nat) (c : UInt8) : Nat := if c == 42 then 8 else if part == 8 && c == 47 then 0 else 7
def slashedB (part : Nat) (c : UInt8) : Pos :=
  if c == 47 then (6, []) else if c == 42 then (7, []) else if part == 13 then (matchedB 9 c, []) else codeB 0 [] c
/-- An octet more. -/
def stepB (p : Pos) (c : UInt8) : Pos :=
  match p.1 with
  | 0 | 1 => codeB p.1 p.2 c
  | 2 | 3 => (quotedB p.1 c, [])
  | 4 | 5 => (p.1 - 2, [])
  | 6 => (if newlB c then 0 else 6, [])
  | 7 | 8 => (remarkB p.1 c, [])
  | 9 | 11 => (matchedB p.1 c, [])
  | 10 | 12 => (p.1 - 1, [])
  | 13 | 14 => slashedB p.1 c
  | _ => (15, [])
def feedB (p : Pos) (l : List UInt8) : Pos := l.foldl stepB p
theorem feedB_app (p : Pos) (a b : List UInt8) : feedB p (a ++ b) = feedB (feedB p a) b := by unfold feedB; rw [List.foldl_append]
theorem feedB_cons (p : Pos) (c : UInt8) (b : List UInt8) : feedB p (c :: b) = feedB (stepB p c) b := rfl
theorem feedB_barred (w : List UInt8) (l : List UInt8) : (feedB (15, w) l).1 = 15 := by
  induction l generalizing w with
  | nil => rfl
  | cons c r ih => rw [feedB_cons]; exact ih []
theorem signB_le (p : Nat) (c : UInt8) (h : p ≤ 15) : signB p c ≤ 15 := by unfold signB; (repeat' split) <;> omega
theorem endedB_le (p : Nat) (w : List UInt8) (h : p ≤ 15) : endedB p w ≤ 15 := by unfold endedB; split <;> omega
theorem codeB_le (p : Nat) (w : List UInt8) (c : UInt8) (h : p ≤ 15) : (codeB p w c).1 ≤ 15 := by
  unfold codeB; split
  · simp
  · exact signB_le _ _ (endedB_le p w h)
theorem codeB_word (p : Nat) (w : List UInt8) (c : UInt8) (h : w.length ≤ 16) : (codeB p w c).2.length ≤ 16 := by
  unfold codeB; split
  · split
    · simp; omega
    · exact h
  · simp
theorem matchedB_le (p : Nat) (c : UInt8) (h : p ≤ 14) : matchedB p c ≤ 15 := by unfold matchedB; (repeat' split) <;> omega
theorem stepB_le (p : Pos) (c : UInt8) (h : p.1 ≤ 15) (hw : p.2.length ≤ 16) : (stepB p c).1 ≤ 15 ∧ (stepB p c).2.length ≤ 16 := by
  obtain ⟨n, w⟩ := p
  simp only at h hw
  have hq : ∀ k, quotedB k c ≤ 15 ∨ k > 15 := fun k => by unfold quotedB; (repeat' split) <;> omega
  have hr : ∀ k, remarkB k c ≤ 15 := fun k => by unfold remarkB; (repeat' split) <;> omega
  have hs : ∀ k, k = 13 ∨ k = 14 → (slashedB k c).1 ≤ 15 ∧ (slashedB k c).2.length ≤ 16 := fun k hk => by
    unfold slashedB
    split
    · exact ⟨by decide, Nat.zero_le _⟩
    · split
      · exact ⟨by decide, Nat.zero_le _⟩
      · split
        · exact ⟨matchedB_le _ _ (by decide), Nat.zero_le _⟩
        · exact ⟨codeB_le _ _ _ (by decide), codeB_word _ _ _ (by decide)⟩
  have hn : n = 0 ∨ n = 1 ∨ n = 2 ∨ n = 3 ∨ n = 4 ∨ n = 5 ∨ n = 6 ∨ n = 7 ∨ n = 8 ∨ n = 9 ∨ n = 10 ∨ n = 11 ∨ n = 12 ∨ n = 13 ∨ n = 14 ∨ n = 15 := by omega
  rcases hn with rfl | rfl | rfl | rfl | rfl | rfl | rfl | rfl | rfl | rfl | rfl | rfl | rfl | rfl | rfl | rfl
  · exact ⟨codeB_le 0 w c (by decide), codeB_word 0 w c hw⟩
  · exact ⟨codeB_le 1 w c (by decide), codeB_word 1 w c hw⟩
  · exact ⟨(hq 2).resolve_right (by decide), Nat.zero_le _⟩
  · exact ⟨(hq 3).resolve_right (by decide), Nat.zero_le _⟩
  · exact ⟨by show 2 ≤ 15; decide, Nat.zero_le _⟩
  · exact ⟨by show 3 ≤ 15; decide, Nat.zero_le _⟩
  · refine ⟨?_, Nat.zero_le _⟩
    show (if newlB c then 0 else 6) ≤ 15
    split <;> omega
  · exact ⟨hr 7, Nat.zero_le _⟩
  · exact ⟨hr 8, Nat.zero_le _⟩
  · exact ⟨matchedB_le 9 c (by decide), Nat.zero_le _⟩
  · exact ⟨by show 9 ≤ 15; decide, Nat.zero_le _⟩
  · exact ⟨matchedB_le 11 c (by decide), Nat.zero_le _⟩
  · exact ⟨by show 11 ≤ 15; decide, Nat.zero_le _⟩
  · exact hs 13 (.inl rfl)
  · exact hs 14 (.inr rfl)
  · exact ⟨by show 15 ≤ 15; decide, Nat.zero_le _⟩
theorem feedB_le (p : Pos) (l : List UInt8) (h : p.1 ≤ 15) (hw : p.2.length ≤ 16) : (feedB p l).1 ≤ 15 ∧ (feedB p l).2.length ≤ 16 := by
  induction l generalizing p with
  | nil => exact ⟨h, hw⟩
  | cons c r ih => rw [feedB_cons]; obtain ⟨h1, h2⟩ := stepB_le p c h hw; exact ih _ h1 h2
/-- Remarks. -/
def calmB (c : UInt8) : Bool := !(c == 10) && (!(c == 13) && !(c == 42))
theorem feed_line (w : List UInt8) (l : List UInt8) (h : l.all calmB = true) : (feedB (6, w) l).1 = 6 := by
  induction l generalizing w with
  | nil => rfl
  | cons c r ih =>
    simp only [List.all_cons, Bool.and_eq_true] at h
    have hn : newlB c = false := by
      have := h.1
      unfold calmB at this
      simp at this
      simp [newlB, this]
    rw [feedB_cons]
    show (feedB (if newlB c then 0 else 6, []) r).1 = 6
    rw [hn]
    exact ih [] h.2
theorem feed_block (w : List UInt8) (l : List UInt8) (h : l.all calmB = true) : (feedB (7, w) l).1 = 7 := by
  induction l generalizing w with
  | nil => rfl
  | cons c r ih =>
    simp only [List.all_cons, Bool.and_eq_true] at h
    have hn : (c == 42) = false := by
      have := h.1
      unfold calmB at this
      simp at this
      simp [this]
    rw [feedB_cons]
    show (feedB (remarkB 7 c, []) r).1 = 7
    have : remarkB 7 c = 7 := by unfold remarkB; rw [hn]; rfl
    rw [this]
    exact ih [] h.2
theorem remark_line (s : List UInt8) (h : s.all calmB = true) : (feedB (0, []) ([47, 47] ++ s ++ [10])).1 = 0 := by
  rw [feedB_app, feedB_app]
  have h1 : feedB (0, []) [47, 47] = (6, []) := by decide
  rw [h1]
  have h2 := feed_line [] s h
  generalize feedB (6, []) s = p at h2
  obtain ⟨n, w⟩ := p
  simp only at h2
  subst h2
  rfl
theorem remark_block (s : List UInt8) (h : s.all calmB = true) : (feedB (1, []) ([47, 42] ++ s ++ [42, 47])).1 = 0 := by
  rw [feedB_app, feedB_app]
  have h1 : feedB (1, []) [47, 42] = (7, []) := by decide
  rw [h1]
  have h2 := feed_block [] s h
  generalize feedB (7, []) s = p at h2
  obtain ⟨n, w⟩ := p
  simp only at h2
  subst h2
  rfl
/-- An escaped text stays in its string. -/
def tameB (c : UInt8) : Bool := !(c == 34) && (!(c == 39) && (!(c == 92) && (!(c == 10) && !(c == 13))))
theorem step_tame (q : Nat) (hq : q = 2 ∨ q = 3) (w : List UInt8) (c : UInt8) (h : tameB c = true) : stepB (q, w) c = (q, []) := by
  have hn : quotedB q c = q := by
    unfold tameB at h
    simp at h
    rcases hq with rfl | rfl <;> simp [quotedB, newlB, h]
  rcases hq with rfl | rfl <;> (show (quotedB _ c, []) = _; rw [hn])
theorem feed_tame (q : Nat) (hq : q = 2 ∨ q = 3) (l : List UInt8) (h : l.all tameB = true) : ∀ w, (feedB (q, w) l).1 = q := by
  induction l with
  | nil => intro w; rfl
  | cons c r ih =>
    intro w
    simp only [List.all_cons, Bool.and_eq_true] at h
    rw [feedB_cons, step_tame q hq w c h.1]
    exact ih h.2 []
theorem hexd_tame (d : Nat) (h : d < 16) : tameB (hexd d) = true := by
  revert h; revert d; decide
theorem hexs_tame (u k : Nat) : (hexs u k).all tameB = true := by
  induction k with
  | zero => rfl
  | succ k ih =>
    show (hexd (u / 16 ^ k % 16) :: hexs u k).all tameB = true
    rw [List.all_cons, ih, hexd_tame _ (Nat.mod_lt _ (by omega))]; rfl
theorem feed_uni (q : Nat) (hq : q = 2 ∨ q = 3) (n : Nat) (w : List UInt8) : (feedB (q, w) (uniR n)).1 = q := by
  unfold uniR
  rw [feedB_app]
  have h1 : feedB (q, w) [92, 117] = (q, []) := by
    rcases hq with rfl | rfl <;> rfl
  rw [h1]
  exact feed_tame q hq _ (by unfold pHex; exact hexs_tame _ _) []
theorem feed_quote (q : Nat) (hq : q = 2 ∨ q = 3) (m : Nat) (w : List UInt8) : (feedB (q, w) (quoteC m)).1 = q := by
  unfold quoteC
  split
  · rename_i h
    have hc : m < 128 := by unfold plainC at h; simp only [Bool.and_eq_true, decide_eq_true_eq] at h; exact h.1
    have key : ∀ c, c < 128 → plainC c = true → tameB (u8 c) = true := by decide +kernel
    exact feed_tame q hq _ (by simp [key m hc h]) w
  · split
    · rw [feedB_app]
      have h1 := feed_uni q hq (55296 + (m - 65536) / 1024) w
      generalize feedB (q, w) (uniR (55296 + (m - 65536) / 1024)) = p at h1
      obtain ⟨n, v⟩ := p
      simp only at h1
      subst h1
      exact feed_uni n hq _ v
    · exact feed_uni q hq m w
theorem feed_esc (q : Nat) (hq : q = 2 ∨ q = 3) (cs : List Int) (w : List UInt8) : (feedB (q, w) (cs.flatMap quoteI)).1 = q := by
  induction cs generalizing w with
  | nil => rfl
  | cons c r ih =>
    rw [List.flatMap_cons, feedB_app]
    have h1 := feed_quote q hq c.toNat w
    show (feedB (feedB (q, w) (quoteC c.toNat)) _).1 = q
    generalize feedB (q, w) (quoteC c.toNat) = p at h1
    obtain ⟨n, v⟩ := p
    simp only at h1
    subst h1
    exact ih v
theorem feed_end (q : Nat) (x : UInt8) (hq : (q = 2 ∧ x = 34) ∨ (q = 3 ∧ x = 39)) (s : List UInt8) : (feedB (q, []) (escR s ++ [x])).1 = 1 := by
  rw [feedB_app]
  have h1 := feed_esc q (by rcases hq with ⟨h, _⟩ | ⟨h, _⟩ <;> simp [h]) (charsR s) []
  unfold escR
  generalize feedB (q, []) ((charsR s).flatMap quoteI) = p at h1
  obtain ⟨n, v⟩ := p
  simp only at h1
  subst h1
  rcases hq with ⟨rfl, rfl⟩ | ⟨rfl, rfl⟩ <;> rfl
end Go.Proofs.YtdnmgpidfjkiaaaDoor
