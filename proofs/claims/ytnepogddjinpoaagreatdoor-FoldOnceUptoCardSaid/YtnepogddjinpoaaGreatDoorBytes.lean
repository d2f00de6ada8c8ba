/-
  '[]byte(s)': a new row that holds a string's octets; '[]byte' back to a string.
-/
import Derived.Test.YtnepogddjinpoaaGreatDoorProg
import Derived.Test.YtnepogddjinpoaaGreatDoorM1
import Derived.Lib.ConvBytes
import Derived.Lib.Strings
import Derived.WalkKit
namespace Go.Proofs.YtnepogddjinpoaaGreatDoor
open Go.RowKit
set_option linter.unusedVariables false

theorem mk_size (l : List UInt8) : (⟨l.toArray⟩ : ByteArray).size = l.length := by simp [ByteArray.size]

/-- The row behind a conversion: block g holds the octets l (and a spare), its head may be written. -/
structure ByteRow (w : World) (g : Nat) (l : List UInt8) : Prop where
  row : ∃ (cs : Array Value) (m : Nat), w.heap[g]? = some (.cells cs 5 (m, m + 1)) ∧ l.length ≤ m ∧ m = cs.size ∧ ∀ (j : Nat) (c : UInt8), l[j]? = some c → cs[j]? = some (.int .u8 (c.toNat : Int))
theorem ByteRow.lt {w : World} {g : Nat} {l : List UInt8} (h : ByteRow w g l) : g < w.heap.size := by
  obtain ⟨cs, m, hh, _⟩ := h.row
  rcases Nat.lt_or_ge g w.heap.size with hlt | hge
  · exact hlt
  · rw [Array.getElem?_eq_none hge] at hh; cases hh
theorem ByteRow.cell {w : World} {g : Nat} {l : List UInt8} (h : ByteRow w g l) {j : Nat} {c : UInt8} (hj : l[j]? = some c) : w.cell? ⟨g, j, none⟩ = some (.int .u8 (c.toNat : Int)) := by
  obtain ⟨cs, m, hh, _, _, hc⟩ := h.row
  simp [World.cell?, hh, hc j c hj]
theorem ByteRow.free {w : World} {g : Nat} {l : List UInt8} (h : ByteRow w g l) {j : Nat} (hj : j < l.length) : w.frozen? ⟨g, j, none⟩ = false := by
  obtain ⟨cs, m, hh, hm, _⟩ := h.row
  simp [World.frozen?, hh]; intro; omega
theorem ByteRow.set {w : World} {g : Nat} {l : List UInt8} (h : ByteRow w g l) {j : Nat} (hj : j < l.length) (c : UInt8) : ByteRow (w.setCell ⟨g, j, none⟩ (.int .u8 (c.toNat : Int))) g (l.set j c) := by
  obtain ⟨cs, m, hh, hm, hs, hc⟩ := h.row
  refine ⟨cs.setIfInBounds j (.int .u8 (c.toNat : Int)), m, ?_, by simpa using hm, by simpa using hs, fun k d hk => ?_⟩
  · simp [World.setCell, Array.getElem?_modify, hh]
  · rw [List.getElem?_set] at hk
    rw [Array.getElem?_setIfInBounds]
    by_cases e : j = k
    · subst e
      simp only [if_true, hj, Option.some.injEq] at hk
      subst hk
      simp only [if_true]
      rw [if_pos (by omega)]
    · rw [if_neg e] at hk ⊢
      exact hc k d hk
theorem ByteRow.reads {w : World} {g : Nat} {l : List UInt8} (h : ByteRow w g l) : Reads w w.heap.size 1 (some ⟨g, 0, none⟩) l.length (bv l) := by
  refine ⟨by rw [bv_length]; omega, fun hn => ⟨_, rfl, h.lt, fun j u hu => ?_⟩⟩
  have hadd : (⟨g, 0, none⟩ : Addr).add j = ⟨g, j, none⟩ := by unfold Addr.add; split <;> simp_all
  rw [hadd]
  simp only [bv, List.getElem?_map, Option.map_eq_some_iff] at hu
  obtain ⟨c, hc, rfl⟩ := hu
  exact h.cell hc

/-- []byte(s), in whatever world. -/
theorem conv_bytes (W : World) (s : ByteArray) : ∃ cap W1, (convert 9 119 (.string s)).run Tryz.prog W = .ok (.slice (some ⟨W.heap.size, 0, none⟩) s.size cap) W1 ∧
    ByteRow W1 W.heap.size s.data.toList ∧ Below W.heap.size W W1 ∧ W.heap.size < W1.heap.size ∧ s.size ≤ cap := by
  refine ⟨_, _, Lib.run_convert_string_bytes W 9 119 5 s Tryz.underlying9 Tryz.underlying119 Tryz.underlying5, ?_, ?_, ?_, ?_⟩
  · refine ⟨_, _, Lib.bytesWorld_at_new W 5 s, ?_, rfl, ?_⟩
    · rw [size_list]
      have : s.size = s.data.size := rfl
      simp [Lib.bytesCells]
    · intro j c hj
      have hl : j < s.size := by
        rcases Nat.lt_or_ge j s.size with h | h
        · exact h
        · rw [List.getElem?_eq_none (by rw [size_list]; exact h)] at hj; cases hj
      have hc := Lib.bytesWorld_cell W 5 s j hl
      simp [World.cell?, Lib.bytesWorld_at_new] at hc
      rw [hc]
      have hj' : s.data[j]? = some c := by rw [← Array.getElem?_toList]; exact hj
      simp [hj']
  · exact ⟨rfl, rfl, rfl, by rw [Lib.bytesWorld_size]; omega, fun k hk => Lib.bytesWorld_at_old W _ s k hk⟩
  · rw [Lib.bytesWorld_size]; omega
  · exact grownCap_ge _ _ _ _
end Go.Proofs.YtnepogddjinpoaaGreatDoor
