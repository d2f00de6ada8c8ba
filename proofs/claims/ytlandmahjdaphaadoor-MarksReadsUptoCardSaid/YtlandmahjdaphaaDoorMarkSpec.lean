/-
  PLAIN LAWS: a state's text.
-/
import Derived.Test.YtlandmahjdaphaaDoorNormSpec
import Derived.Test.YtlandmahjdaphaaDoorUnpSpec
import Derived.Test.YtlandmahjdaphaaDoorNumBack
import Derived.Lib.SplitLaws
import Derived.Lib.Join
namespace Go.Proofs.YtlandmahjdaphaaDoor
set_option linter.unusedVariables false

def encM (l : List UInt8) : List UInt8 := pctR false (repairR l)
theorem encM_len (l : List UInt8) : (encM l).length ≤ 12 * l.length := by
  unfold encM
  have h1 := pctR_len false (repairR l)
  have h2 := repairR_len l
  omega
def fieldN (i : Nat) : Bool := i == 0 || (i == 3 || i == 6)
def fieldBad (i : Nat) (x : List UInt8) : Bool :=
  if fieldN i then !((pParse x).2 == 0) else (!(unp x).2.2 || (!(unp x).1.isEmpty && !(encM (unp x).1 == x)))
def numAt (i : Nat) (x : List UInt8) : Int := if fieldN i then (pParse x).1 else 0
def txtAt (i : Nat) (x : List UInt8) : List UInt8 := if fieldN i then [] else (unp x).1
theorem unp_empty (l : List UInt8) (h : (unp l).2.2 = true) (h1 : (unp l).1 = []) : l = [] := by
  cases l with
  | nil => rfl
  | cons c r =>
    rcases Bool.eq_false_or_eq_true (c != 37) with h2 | h2
    · rw [unp_keep c r h2] at h1; simp at h1
    · rcases Bool.eq_false_or_eq_true (codedB (c :: r)) with h3 | h3
      · rw [unp_code c r h2 h3] at h1; simp at h1
      · rw [unp_bad c r h2 h3] at h; simp at h
theorem encM_nil : encM [] = [] := by decide +kernel
theorem fieldBack_n (i : Nat) (x : List UInt8) (hn : fieldN i = true) (h : fieldBad i x = false) : pInt (numAt i x) = x := by
  unfold fieldBad at h; unfold numAt
  rw [if_pos hn] at h ⊢
  exact pParse_back x (by simpa using h)
theorem fieldBack_t (i : Nat) (x : List UInt8) (hn : fieldN i = false) (h : fieldBad i x = false) : encM (txtAt i x) = x := by
  unfold fieldBad at h; unfold txtAt
  rw [if_neg (by rw [hn]; decide)] at h ⊢
  simp only [Bool.or_eq_false_iff, Bool.and_eq_false_iff, Bool.not_eq_false', List.isEmpty_iff, beq_iff_eq] at h
  obtain ⟨h1, h2 | h2⟩ := h
  · rw [h2, encM_nil, unp_empty x h1 h2]
  · exact h2
theorem join_splitK (c : UInt8) (k : Nat) : ∀ s : List UInt8, Lib.join (Lib.splitK [c] 0 k s) [c] = s := by
  induction k with
  | zero => intro s; exact Lib.join_one s [c]
  | succ k ih =>
    intro s
    unfold Lib.splitK
    rcases Lib.index_spec s [c] with ⟨h, _⟩ | ⟨i, h, hi, ho, _⟩
    · rw [h]; exact Lib.join_one s [c]
    · rw [h, if_neg (by simp <;> omega)]
      have hne : Lib.splitK [c] 0 k (s.drop ((i : Int).toNat + [c].length)) ≠ [] := by
        cases k with
        | zero => simp [Lib.splitK]
        | succ k => unfold Lib.splitK; split <;> simp
      have hj := ih (s.drop ((i : Int).toNat + [c].length))
      generalize Lib.splitK [c] 0 k (s.drop ((i : Int).toNat + [c].length)) = L at hne hj
      have e : Lib.join (s.take ((i : Int).toNat + 0) :: L) [c] = s.take i ++ c :: Lib.join L [c] := by
        cases L with
        | nil => exact absurd rfl hne
        | cons y r => simp [Lib.join, List.intercalate, List.intersperse]
      rw [e, hj]
      have hc : s.drop i = c :: s.drop (i + 1) := by
        unfold Lib.occAt at ho
        cases hd : s.drop i with
        | nil => rw [hd] at ho; simp at ho
        | cons d r =>
          rw [hd] at ho
          simp at ho
          have : s.drop (i + 1) = r := by rw [← List.drop_drop, hd]; rfl
          rw [this, ho]
      simp only [Int.toNat_natCast, List.length_singleton]
      rw [← hc, List.take_append_drop]
theorem join_split (c : UInt8) (s : List UInt8) : Lib.join (Lib.split s [c]) [c] = s := join_splitK c _ s
/-- The octets of a text's list. -/
def fieldsOf (t : List UInt8) : List (List UInt8) := Lib.split t [124]
end Go.Proofs.YtlandmahjdaphaaDoor
