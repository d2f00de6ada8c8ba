/-
  PLAIN LAWS: an encoded text put behind a URL turns one part alone.
-/
import Derived.Test.YtbcbbeenkndgcaaDoorPairs
import Derived.Test.YtbcbbeenkndgcaaDoorPctSpec
namespace Go.Proofs.YtbcbbeenkndgcaaDoor
set_option linter.unusedVariables false

theorem cutB_no (c : UInt8) (x : List UInt8) (h : c ∉ x) : cutB c x = (x, [], false) := by
  induction x with
  | nil => rfl
  | cons y x ih =>
    have h1 : y ≠ c := fun e => h (by simp [e])
    unfold cutB
    rw [if_neg (by simpa using h1), ih (fun e => h (by simp [e]))]
theorem cutB_app (c : UInt8) (l x : List UInt8) (h : c ∉ x) : cutB c (l ++ x) = if (cutB c l).2.2 then ((cutB c l).1, (cutB c l).2.1 ++ x, true) else (l ++ x, [], false) := by
  induction l with
  | nil => rw [List.nil_append, cutB_no c x h]; rfl
  | cons y l ih =>
    by_cases hy : y = c
    · have e : ∀ m, cutB c (y :: m) = ([], m, true) := fun m => by simp [cutB, hy]
      rw [List.cons_append, e, e]; rfl
    · have e : ∀ m, cutB c (y :: m) = (y :: (cutB c m).1, (cutB c m).2.1, (cutB c m).2.2) := fun m => by simp [cutB, hy]
      rw [List.cons_append, e, e, ih]
      cases (cutB c l).2.2 <;> rfl
theorem cutB_off (c : UInt8) (l : List UInt8) (h : (cutB c l).2.2 = false) : cutB c l = (l, [], false) := by
  obtain ⟨h1, h2⟩ := cutB_none c l h
  exact Prod.ext h1 (Prod.ext h2 h)
theorem schemeB_app (l x : List UInt8) (h : 58 ∉ x) : schemeB (l ++ x) = schemeB l := by
  unfold schemeB
  rw [cutB_app 58 l x h]
  cases h2 : (cutB 58 l).2.2 <;> simp
theorem twoSlash_app (l x : List UInt8) (h : 47 ∉ x) : twoSlash (l ++ x) = (twoSlash l).map (· ++ x) := by
  match l with
  | [] =>
    match x with
    | [] => rfl
    | [a] => rfl
    | a :: b :: r =>
      have : a ≠ 47 := fun e => h (by simp [e])
      show (if a == 47 && b == 47 then some r else none) = none
      rw [if_neg (by simp [this])]
  | [a] =>
    match x with
    | [] => rfl
    | b :: r =>
      have : b ≠ 47 := fun e => h (by simp [e])
      show (if a == 47 && b == 47 then some r else none) = none
      rw [if_neg (by simp [this])]
  | a :: b :: r =>
    show (if a == 47 && b == 47 then some (r ++ x) else none) = (if a == 47 && b == 47 then some r else none).map (· ++ x)
    split <;> rfl
theorem hostB_app (t x : List UInt8) (h : 47 ∉ x) : hostB (t ++ x) = if (hostB t).2 = [] then ((hostB t).1 ++ x, []) else ((hostB t).1, (hostB t).2 ++ x) := by
  unfold hostB
  rw [cutB_app 47 t x h]
  cases h2 : (cutB 47 t).2.2 <;> simp
def addX (u : UrlV) (x : List UInt8) : UrlV :=
  if u.hf then { u with frag := u.frag ++ x } else if u.hq then { u with query := u.query ++ x }
  else if u.hh && u.path == [] then { u with host := u.host ++ x } else { u with path := u.path ++ x }
theorem splitPath_app (sc : List UInt8) (hs : Bool) (l x : List UInt8) (h : 47 ∉ x) : splitPath [] [] false false sc hs (l ++ x) = addX (splitPath [] [] false false sc hs l) x := by
  unfold splitPath
  rw [twoSlash_app l x h]
  cases twoSlash l with
  | none => simp [addX]
  | some t =>
    simp only [Option.map_some]
    rw [hostB_app t x h]
    by_cases hp : (hostB t).2 = []
    · simp [addX, hp]
    · simp [addX, hp]
theorem splitScheme_app (l x : List UInt8) (h : 47 ∉ x) (h2 : 58 ∉ x) : splitScheme [] [] false false (l ++ x) = addX (splitScheme [] [] false false l) x := by
  unfold splitScheme
  rw [schemeB_app l x h2]
  by_cases hs : (schemeB l).2 = true
  · rw [if_pos hs, if_pos hs, cutB_app 58 l x h2, if_pos (schemeB_cut hs)]
    show splitPath [] [] false false (cutB 58 l).1 true ((cutB 58 l).2.1 ++ x) = _
    rw [splitPath_app _ _ _ _ h, schemeB_cut hs]
  · rw [if_neg hs, if_neg hs, splitPath_app _ _ _ _ h]
theorem splitPath_flags (fr qu : List UInt8) (hf hq : Bool) (sc : List UInt8) (hs : Bool) (l : List UInt8) :
    splitPath fr qu hf hq sc hs l = { splitPath [] [] false false sc hs l with frag := fr, query := qu, hf := hf, hq := hq } := by
  unfold splitPath
  cases twoSlash l <;> rfl
theorem splitScheme_flags (fr qu : List UInt8) (hf hq : Bool) (l : List UInt8) :
    splitScheme fr qu hf hq l = { splitScheme [] [] false false l with frag := fr, query := qu, hf := hf, hq := hq } := by
  unfold splitScheme
  split
  · rw [splitPath_flags]
  · rw [splitPath_flags]
theorem splitScheme_off (l : List UInt8) : (splitScheme [] [] false false l).hf = false ∧ (splitScheme [] [] false false l).hq = false ∧ (splitScheme [] [] false false l).frag = [] ∧ (splitScheme [] [] false false l).query = [] := by
  have : ∀ sc hs l, (splitPath [] [] false false sc hs l).hf = false ∧ (splitPath [] [] false false sc hs l).hq = false ∧ (splitPath [] [] false false sc hs l).frag = [] ∧ (splitPath [] [] false false sc hs l).query = [] := by
    intro sc hs l; unfold splitPath; cases twoSlash l <;> exact ⟨rfl, rfl, rfl, rfl⟩
  unfold splitScheme
  split <;> exact this _ _ _
theorem addX_path (u : UrlV) (x : List UInt8) (h1 : u.hf = false) (h2 : u.hq = false) : addX u x = if u.hh && u.path == [] then { u with host := u.host ++ x } else { u with path := u.path ++ x } := by
  unfold addX; rw [h1, h2]; rfl
theorem splitB_app (l x : List UInt8) (h35 : 35 ∉ x) (h63 : 63 ∉ x) (h47 : 47 ∉ x) (h58 : 58 ∉ x) : splitB (l ++ x) = addX (splitB l) x := by
  unfold splitB
  rw [cutB_app 35 l x h35]
  cases hf : (cutB 35 l).2.2
  · rw [if_neg (by simp)]
    rw [cutB_off 35 l hf]
    simp only
    rw [cutB_app 63 l x h63]
    cases hq : (cutB 63 l).2.2
    · rw [if_neg (by simp), cutB_off 63 l hq]
      exact splitScheme_app l x h47 h58
    · rw [if_pos rfl]
      show splitScheme [] ((cutB 63 l).2.1 ++ x) false true (cutB 63 l).1 = addX (splitScheme [] (cutB 63 l).2.1 false true (cutB 63 l).1) x
      rw [splitScheme_flags [] ((cutB 63 l).2.1 ++ x), splitScheme_flags [] (cutB 63 l).2.1]
      rfl
  · rw [if_pos rfl]
    show splitScheme ((cutB 35 l).2.1 ++ x) (cutB 63 (cutB 35 l).1).2.1 true (cutB 63 (cutB 35 l).1).2.2 (cutB 63 (cutB 35 l).1).1 = addX (splitScheme (cutB 35 l).2.1 (cutB 63 (cutB 35 l).1).2.1 true (cutB 63 (cutB 35 l).1).2.2 (cutB 63 (cutB 35 l).1).1) x
    rw [splitScheme_flags ((cutB 35 l).2.1 ++ x), splitScheme_flags (cutB 35 l).2.1]
    rfl
theorem pairsF_app (x : List UInt8) (h : 38 ∉ x) : ∀ (n : Nat) (q : List UInt8), q.length ≤ n → (pairsF (q ++ x)).length = (pairsF q).length := by
  intro n
  induction n with
  | zero =>
    intro q hq
    obtain rfl : q = [] := List.eq_nil_of_length_eq_zero (by omega)
    rw [List.nil_append, pairsF_last x (by rw [cutB_no 38 x h]), pairsF_last [] rfl]
    rfl
  | succ n ih =>
    intro q hq
    have hc := cutB_app 38 q x h
    cases hm : (cutB 38 q).2.2
    · rw [hm, if_neg (by simp)] at hc
      rw [pairsF_last _ (by rw [hc]), pairsF_last q hm]
      rfl
    · rw [hm, if_pos rfl] at hc
      rw [pairsF_more _ (by rw [hc]), pairsF_more q hm, hc]
      have := cutB_more 38 q hm
      simp only [List.length_cons]
      rw [ih _ (by omega)]
theorem pairsP_app (x q : List UInt8) (h : 38 ∉ x) (hq : q ≠ []) : (pairsP (q ++ x)).length = (pairsP q).length := by
  unfold pairsP
  rw [if_neg hq, if_neg (by simp [hq])]
  exact pairsF_app x h q.length q (Nat.le_refl _)
theorem pct_calm (t : List UInt8) : ∀ c ∈ pctR false t, c ≠ 35 ∧ c ≠ 63 ∧ c ≠ 47 ∧ c ≠ 58 ∧ c ≠ 38 := by
  induction t with
  | nil => intro c hc; simp [pctR] at hc
  | cons d t ih =>
    intro c hc
    simp only [pctR, List.mem_append] at hc
    rcases hc with hc | hc
    · have key := allBytes (fun d => (if unresB d then [d] else pct2 d).all fun c => !(c == 35) && !(c == 63) && !(c == 47) && !(c == 58) && !(c == 38)) (by decide +kernel) d
      have hk : keepB false d t = unresB d := by unfold keepB; simp
      rw [hk] at hc
      have := List.all_eq_true.1 key c hc
      simpa [and_assoc] using this
    · exact ih c hc
end Go.Proofs.YtbcbbeenkndgcaaDoor
