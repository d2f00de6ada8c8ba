/-
  marks.Parse: a text's state.
-/
import Derived.Test.YtlandmahjdaphaaDoorMarkText
import Derived.Test.YtlandmahjdaphaaDoorPctDec
import Derived.Test.YtlandmahjdaphaaDoorParse
namespace Go.Proofs.YtlandmahjdaphaaDoor
open Go.RowKit
set_option linter.unusedVariables false
set_option linter.unusedSimpArgs false

def nV (L : List (List UInt8)) (k j : Nat) : Value := .int .i64 (if j < k then numAt j (L.getD j []) else 0)
def tV (L : List (List UInt8)) (k j : Nat) : Value := .string (if j < k then ⟨(txtAt j (L.getD j [])).toArray⟩ else ⟨#[]⟩)
abbrev nRow (L : List (List UInt8)) (k : Nat) : Array Value := #[nV L k 0, nV L k 1, nV L k 2, nV L k 3, nV L k 4, nV L k 5, nV L k 6, nV L k 7]
abbrev tRow (L : List (List UInt8)) (k : Nat) : Array Value := #[tV L k 0, tV L k 1, tV L k 2, tV L k 3, tV L k 4, tV L k 5, tV L k 6, tV L k 7]
theorem eight {k : Nat} (h : k < 8) : k = 0 ∨ k = 1 ∨ k = 2 ∨ k = 3 ∨ k = 4 ∨ k = 5 ∨ k = 6 ∨ k = 7 := by omega
theorem nRow_set (L : List (List UInt8)) (k : Nat) (h : k < 8) : (nRow L k).setIfInBounds k (.int .i64 (numAt k (L.getD k []))) = nRow L (k + 1) := by
  rcases eight h with rfl | rfl | rfl | rfl | rfl | rfl | rfl | rfl <;> simp [nV]
theorem nRow_keep (L : List (List UInt8)) (k : Nat) (h : k < 8) (hn : fieldN k = false) : nRow L (k + 1) = nRow L k := by
  rcases eight h with rfl | rfl | rfl | rfl | rfl | rfl | rfl | rfl <;> first | (exact absurd hn (by decide)) | (simp [nV, numAt, fieldN])
theorem tRow_set (L : List (List UInt8)) (k : Nat) (h : k < 8) : (tRow L k).setIfInBounds k (.string ⟨(txtAt k (L.getD k [])).toArray⟩) = tRow L (k + 1) := by
  rcases eight h with rfl | rfl | rfl | rfl | rfl | rfl | rfl | rfl <;> simp [tV]
theorem tRow_keep (L : List (List UInt8)) (k : Nat) (h : k < 8) (hn : fieldN k = true) : tRow L (k + 1) = tRow L k := by
  rcases eight h with rfl | rfl | rfl | rfl | rfl | rfl | rfl | rfl <;> first | (exact absurd hn (by decide)) | (simp [tV, txtAt, fieldN])
theorem tRow_at (L : List (List UInt8)) (k : Nat) (h : k < 8) : (tRow L k)[k]? = some (.string ⟨#[]⟩) := by
  rcases eight h with rfl | rfl | rfl | rfl | rfl | rfl | rfl | rfl <;> simp [tV]
theorem nRow_some (L : List (List UInt8)) (k j : Nat) (h : j < 8) : ((nRow L k)[j]?).isSome = true := by
  rcases eight h with rfl | rfl | rfl | rfl | rfl | rfl | rfl | rfl <;> simp
theorem tRow_some (L : List (List UInt8)) (k j : Nat) (h : j < 8) : ((tRow L k)[j]?).isSome = true := by
  rcases eight h with rfl | rfl | rfl | rfl | rfl | rfl | rfl | rfl <;> simp
/-- The state of eight pieces. -/
def stOf (L : List (List UInt8)) : StV := ⟨numAt 0 (L.getD 0 []), ⟨(txtAt 1 (L.getD 1 [])).toArray⟩, ⟨(txtAt 2 (L.getD 2 [])).toArray⟩, numAt 3 (L.getD 3 []), ⟨(txtAt 4 (L.getD 4 [])).toArray⟩, ⟨(txtAt 5 (L.getD 5 [])).toArray⟩, numAt 6 (L.getD 6 []), ⟨(txtAt 7 (L.getD 7 [])).toArray⟩⟩
def anyBad (L : List (List UInt8)) : Bool := (List.range 8).any fun j => fieldBad j (L.getD j [])
/-- marks.Parse, of a text's pieces. -/
def parseL (L : List (List UInt8)) : StV × Int :=
  if L.length ≠ 8 then (StV.none_, 33) else if anyBad L then (StV.none_, 33)
  else if numAt 3 (L.getD 3 []) < 0 ∨ 255 < numAt 3 (L.getD 3 []) then (StV.none_, 33)
  else if (stOf L).chk = 0 then (stOf L, 0) else (StV.none_, (stOf L).chk)
def NoBad (L : List (List UInt8)) (k : Nat) : Prop := ∀ j, j < k → fieldBad j (L.getD j []) = false
theorem NoBad.next {L : List (List UInt8)} {k : Nat} (h : NoBad L k) (hk : fieldBad k (L.getD k []) = false) : NoBad L (k + 1) := by
  intro j hj
  rcases Nat.lt_or_ge j k with h1 | h1
  · exact h j h1
  · have : j = k := by omega
    subst this; exact hk
theorem bad_any {L : List (List UInt8)} {k : Nat} (hk8 : k < 8) (hk : fieldBad k (L.getD k []) = true) : anyBad L = true := by
  unfold anyBad
  rw [List.any_eq_true]
  exact ⟨k, List.mem_range.2 hk8, hk⟩
theorem NoBad.all {L : List (List UInt8)} (h : NoBad L 8) : anyBad L = false := by
  unfold anyBad
  rw [List.any_eq_false]
  intro j hj
  rw [h j (List.mem_range.1 hj)]
  exact Bool.false_ne_true
theorem join_mem_len (L : List (List UInt8)) (sep : List UInt8) (y : List UInt8) (hy : y ∈ L) : y.length ≤ (Lib.join L sep).length := by
  have hl : ∀ (r : List (List UInt8)), y ∈ r → y.length ≤ Lib.lens r := by
    intro r
    induction r with
    | nil => intro h; exact absurd h List.not_mem_nil
    | cons z r ih =>
      intro h
      simp only [Lib.lens, List.map_cons, List.sum_cons] at ih ⊢
      rcases List.mem_cons.1 h with rfl | h
      · omega
      · have := ih h; omega
  match L, hy with
  | x :: r, hy =>
    rw [Lib.join_cons, List.length_append, Lib.joinTail_length]
    rcases List.mem_cons.1 hy with rfl | h
    · omega
    · have := hl r h; omega
end Go.Proofs.YtlandmahjdaphaaDoor
