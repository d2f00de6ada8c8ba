/-
  PLAIN LAWS: a URL's parts.
-/
import Derived.Test.YtdnmgpidfjkiaaaDoorOctSpec
import Derived.Lib.Bytealg
namespace Go.Proofs.YtdnmgpidfjkiaaaDoor
set_option linter.unusedVariables false

/-- What stands ahead of an octet, and behind it; is it there? -/
def cutB (c : UInt8) : List UInt8 → List UInt8 × List UInt8 × Bool
  | [] => ([], [], false)
  | x :: l => if x == c then ([], l, true) else (x :: (cutB c l).1, (cutB c l).2.1, (cutB c l).2.2)
theorem cutB_back (c : UInt8) (l : List UInt8) : (cutB c l).1 ++ (if (cutB c l).2.2 then c :: (cutB c l).2.1 else []) = l := by
  induction l with
  | nil => rfl
  | cons x l ih =>
    unfold cutB
    by_cases h : x == c
    · rw [if_pos h]; have : x = c := by simpa using h
      simp [this]
    · rw [if_neg h]
      simpa using ih
theorem cutB_none (c : UInt8) (l : List UInt8) (h : (cutB c l).2.2 = false) : (cutB c l).1 = l ∧ (cutB c l).2.1 = [] := by
  induction l with
  | nil => exact ⟨rfl, rfl⟩
  | cons x l ih =>
    unfold cutB at h ⊢
    by_cases hx : x == c
    · rw [if_pos hx] at h; cases h
    · rw [if_neg hx] at h ⊢
      obtain ⟨h1, h2⟩ := ih h
      exact ⟨by simp [h1], h2⟩
theorem cutB_ahead (c : UInt8) (l : List UInt8) : c ∉ (cutB c l).1 := by
  induction l with
  | nil => simp [cutB]
  | cons x l ih =>
    unfold cutB
    by_cases hx : x == c
    · rw [if_pos hx]; simp
    · rw [if_neg hx]
      have : x ≠ c := by simpa using hx
      simp [ih, Ne.symm this]
theorem cutB_len (c : UInt8) (l : List UInt8) : (cutB c l).1.length + (cutB c l).2.1.length ≤ l.length := by
  have := congrArg List.length (cutB_back c l)
  rw [List.length_append] at this
  split at this
  · simp at this; omega
  · rename_i h
    rw [(cutB_none c l (by simpa using h)).2]
    simp at this ⊢; omega
theorem cutB_idx (c : UInt8) (l : List UInt8) : (Lib.indexByte l c = -1 ∧ cutB c l = (l, [], false)) ∨
    (∃ k : Nat, Lib.indexByte l c = (k : Int) ∧ k < l.length ∧ cutB c l = (l.take k, l.drop (k + 1), true)) := by
  induction l with
  | nil => left; exact ⟨rfl, rfl⟩
  | cons x l ih =>
    unfold cutB Lib.indexByte
    by_cases hx : x == c
    · rw [if_pos hx, if_pos hx]
      right; exact ⟨0, rfl, by simp, by simp⟩
    · rw [if_neg hx, if_neg hx]
      rcases ih with ⟨h1, h2⟩ | ⟨k, h1, h2, h3⟩
      · left; rw [h1, h2]; exact ⟨rfl, rfl⟩
      · right
        refine ⟨k + 1, ?_, by simp; omega, ?_⟩
        · rw [h1, if_neg (by simp)]; simp
        · rw [h3]; simp
/-- Does an octet end what may be a scheme? -/
def ender (c : UInt8) : Bool := c.toNat == 47 || c.toNat == 63 || c.toNat == 35
def schemeB (l : List UInt8) : List UInt8 × Bool :=
  if (cutB 58 l).2.2 && !(cutB 58 l).1.any ender then ((cutB 58 l).1.map smallB, true) else ([], false)
structure UrlV where
  scheme : List UInt8
  host : List UInt8
  path : List UInt8
  query : List UInt8
  frag : List UInt8
  hs : Bool
  hh : Bool
  hq : Bool
  hf : Bool
  deriving DecidableEq
/-- What stands behind // , and what behind that. -/
def hostB (l : List UInt8) : List UInt8 × List UInt8 :=
  if (cutB 47 l).2.2 then ((cutB 47 l).1, 47 :: (cutB 47 l).2.1) else (l, [])
def twoSlash : List UInt8 → Option (List UInt8)
  | a :: b :: l => if a == 47 && b == 47 then some l else none
  | _ => none
def splitPath (fr qu : List UInt8) (hf hq : Bool) (sc : List UInt8) (hs : Bool) (l : List UInt8) : UrlV :=
  match twoSlash l with
  | some t => ⟨sc, (hostB t).1, (hostB t).2, qu, fr, hs, true, hq, hf⟩
  | none => ⟨sc, [], l, qu, fr, hs, false, hq, hf⟩
def splitScheme (fr qu : List UInt8) (hf hq : Bool) (l : List UInt8) : UrlV :=
  if (schemeB l).2 then splitPath fr qu hf hq (cutB 58 l).1 (cutB 58 l).2.2 (cutB 58 l).2.1 else splitPath fr qu hf hq [] false l
def splitB (l : List UInt8) : UrlV :=
  splitScheme (cutB 35 l).2.1 (cutB 63 (cutB 35 l).1).2.1 (cutB 35 l).2.2 (cutB 63 (cutB 35 l).1).2.2 (cutB 63 (cutB 35 l).1).1
def partB (is : Bool) (ahead s behind : List UInt8) : List UInt8 := if is then ahead ++ s ++ behind else []
def joinB (u : UrlV) : List UInt8 := partB u.hs [] u.scheme [58] ++ partB u.hh [47, 47] u.host [] ++ partB true [] u.path [] ++ partB u.hq [63] u.query [] ++ partB u.hf [35] u.frag []
theorem hostB_back (l : List UInt8) : (hostB l).1 ++ (hostB l).2 = l := by
  have h := cutB_back 47 l
  unfold hostB
  split
  · rename_i h1; rw [if_pos h1] at h; exact h
  · simp
theorem twoSlash_some {l t : List UInt8} (h : twoSlash l = some t) : l = 47 :: 47 :: t := by
  unfold twoSlash at h
  split at h
  · split at h
    · rename_i a b r hc
      cases h
      simp at hc
      simp [hc]
    · cases h
  · cases h
def empties (u : UrlV) : Prop := (u.hs = false → u.scheme = []) ∧ (u.hh = false → u.host = []) ∧ (u.hq = false → u.query = []) ∧ (u.hf = false → u.frag = [])
theorem splitPath_back (fr qu : List UInt8) (hf hq : Bool) (sc : List UInt8) (hs : Bool) (l : List UInt8) :
    joinB (splitPath fr qu hf hq sc hs l) = partB hs [] sc [58] ++ l ++ partB hq [63] qu [] ++ partB hf [35] fr [] := by
  unfold splitPath
  cases h : twoSlash l with
  | some t =>
    have e := twoSlash_some h
    have e2 := hostB_back t
    simp only [joinB]
    rw [e]
    conv => rhs; rw [← e2]
    simp [partB]
  | none => simp [joinB, partB]
theorem schemeB_cut {l : List UInt8} (h : (schemeB l).2 = true) : (cutB 58 l).2.2 = true := by
  unfold schemeB at h
  split at h
  · rename_i h1; simp at h1; exact h1.1
  · cases h
theorem splitScheme_back (fr qu : List UInt8) (hf hq : Bool) (l : List UInt8) :
    joinB (splitScheme fr qu hf hq l) = l ++ partB hq [63] qu [] ++ partB hf [35] fr [] := by
  unfold splitScheme
  split
  · rename_i h
    rw [splitPath_back]
    have e := schemeB_cut h
    have e2 := cutB_back 58 l
    rw [if_pos e] at e2
    rw [e]
    conv => rhs; rw [← e2]
    simp [partB]
  · rw [splitPath_back]; simp [partB]
theorem joinB_splitB (l : List UInt8) : joinB (splitB l) = l := by
  unfold splitB
  rw [splitScheme_back]
  have e1 := cutB_back 35 l
  have e2 := cutB_back 63 (cutB 35 l).1
  have p : ∀ (b : Bool) (c : UInt8) (x : List UInt8), partB b [c] x [] = if b then c :: x else [] := by
    intro b c x; cases b <;> simp [partB]
  rw [p, p, e2, e1]
theorem splitPath_empties (fr qu : List UInt8) (hf hq : Bool) (sc : List UInt8) (hs : Bool) (l : List UInt8) (h1 : hs = false → sc = []) (h2 : hq = false → qu = []) (h3 : hf = false → fr = []) : empties (splitPath fr qu hf hq sc hs l) := by
  unfold splitPath
  split
  · exact ⟨h1, (fun h => by cases h), h2, h3⟩
  · exact ⟨h1, fun _ => rfl, h2, h3⟩
theorem splitB_empties (l : List UInt8) : empties (splitB l) := by
  have h2 := fun h => (cutB_none 63 (cutB 35 l).1 h).2
  have h3 := fun h => (cutB_none 35 l h).2
  unfold splitB splitScheme
  split
  · exact splitPath_empties _ _ _ _ _ _ _ (fun h => by rename_i h1; rw [schemeB_cut h1] at h; cases h) h2 h3
  · exact splitPath_empties _ _ _ _ _ _ _ (fun _ => rfl) h2 h3
def UrlV.size (u : UrlV) : Nat := u.scheme.length + u.host.length + u.path.length + u.query.length + u.frag.length
theorem partB_ge (b : Bool) (x y z : List UInt8) (h : b = false → y = []) : y.length ≤ (partB b x y z).length := by
  cases b with
  | false => simp [h rfl]
  | true => simp [partB]; omega
theorem splitB_size (l : List UInt8) : (splitB l).size ≤ l.length := by
  have hj := congrArg List.length (joinB_splitB l)
  obtain ⟨h1, h2, h3, h4⟩ := splitB_empties l
  have g1 := partB_ge (splitB l).hs [] (splitB l).scheme [58] h1
  have g2 := partB_ge (splitB l).hh [47, 47] (splitB l).host [] h2
  have g3 := partB_ge true [] (splitB l).path [] (fun h => by cases h)
  have g4 := partB_ge (splitB l).hq [63] (splitB l).query [] h3
  have g5 := partB_ge (splitB l).hf [35] (splitB l).frag [] h4
  unfold joinB at hj
  simp only [List.length_append] at hj
  unfold UrlV.size
  omega
end Go.Proofs.YtdnmgpidfjkiaaaDoor
