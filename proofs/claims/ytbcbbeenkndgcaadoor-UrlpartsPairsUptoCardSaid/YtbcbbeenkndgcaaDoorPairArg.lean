/-
  A slice of pairs that comes in: opened, its bulk, and carried into the world behind the call.
-/
import Derived.Test.YtbcbbeenkndgcaaDoorQuery2
import Derived.Test.YtbcbbeenkndgcaaDoorRows
import Derived.Deep.SlicePairs
import Derived.WideKeyArgs
import Derived.ChangeAt
import Derived.WalkKit
import Derived.ProofKit
import Derived.OpenShut
namespace Go.Proofs.YtbcbbeenkndgcaaDoor
open Go.ChangeShapes Go.WideShapes Go.ChangeAt Go.RowKit Go.Deep
set_option linter.unusedVariables false

theorem laidOutA : laidOutB Tryd.prog = true := by kernel_rfl
theorem cellsAttr : Tryd.prog.cellsOf 38 = 2 := by kernel_rfl
theorem cellsStr : Tryd.prog.cellsOf 9 = 1 := by kernel_rfl
def strOf : Value → List UInt8
  | .string s => s.data.toList
  | _ => []
theorem addr_some {w : World} {a : Addr} {v : Value} (h : w.cell? a = some v) : a = ⟨a.block, a.off, none⟩ ∧ a.block < w.heap.size := by
  obtain ⟨b, o, s⟩ := a
  cases s with
  | none =>
    refine ⟨rfl, ?_⟩
    unfold World.cell? at h
    simp only at h
    rcases Nat.lt_or_ge b w.heap.size with h1 | h1
    · exact h1
    · rw [Array.getElem?_eq_none h1] at h; cases h
  | some x =>
    unfold World.cell? at h
    simp only at h
    split at h
    · simp at h
    · cases h
theorem add_off (b o k : Nat) : (⟨b, o, none⟩ : Addr).add k = ⟨b, o + k, none⟩ := by
  unfold Addr.add
  split
  · rename_i h; subst h; rfl
  · rfl
theorem bulk_pairs {H : Type} (ps : List Pair) : sumP ps ≤ Rows.uptoBulkAll (H := H) (ps.map fun p => DataW.agg [.lit (.string p.1), .lit (.string p.2)]) := by
  induction ps with
  | nil => simp [sumP, Rows.uptoBulkAll]
  | cons p r ih =>
    simp only [sumP, List.map_cons, List.sum_cons, Rows.uptoBulkAll, Rows.uptoBulk] at ih ⊢
    omega
set_option maxRecDepth 100000 in
theorem open_pairs {H : Type} {enc : TypeId × Value → H} {W : World} {v : Value} {d : DataW H} {p : List MemPlace}
    (h : DataW.Trod enc Tryd.prog W 0 (fun _ => true) true 34 v d p) (hv : ∃ a n c, v = .slice a n c) :
    ∃ (a0 : Option Addr) (c : Nat) (ps : List Pair), v = .slice a0 ps.length c ∧ ArgPairs W a0 ps ∧ sumP ps ≤ Rows.uptoBulk d := by
  obtain ⟨a1, n1, c1, rfl⟩ := hv
  obtain ⟨n, hn⟩ := h
  have hc : (Value.slice a1 n1 c1).cells.toList = [.slice a1 n1 c1] := rfl
  have hn' : DataW.trod enc Tryd.prog W 0 (fun _ => true) true n 34 [.slice a1 n1 c1] = some (d, p) := hn
  rcases open_slice_pairs Tryd.underlying34 Tryd.underlying38 cellsAttr rfl rfl cellsStr cellsStr hn' with ⟨e1, e2⟩ | ⟨a, len, cap, m, k, V0, V1, D0, D1, P0, P1, e1, hb, hl, hm, hmm, e2, hx⟩
  · injection e1 with e1 _
    injection e1 with e3 e4 e5
    subst e3; subst e4; subst e5
    exact ⟨none, 0, [], rfl, fun i p hp => by simp at hp, by simp [sumP]⟩
  · injection e1 with e1 _
    injection e1 with e3 e4 e5
    subst e3; subst e4; subst e5
    have hlm : n1 ≤ m := by rw [hmm]; simp; exact hl
    have hs : ∀ i, i < n1 → V0 i = .string ⟨(strOf (V0 i)).toArray⟩ ∧ D0 i = .lit (.string (strOf (V0 i))) ∧ V1 i = .string ⟨(strOf (V1 i)).toArray⟩ ∧ D1 i = .lit (.string (strOf (V1 i))) := by
      intro i hi
      obtain ⟨_, _, t0, t1⟩ := hx i (by omega)
      obtain ⟨s0, g0, g1, _⟩ := DataW.trod_string Tryd.underlying9 t0
      obtain ⟨s1, g2, g3, _⟩ := DataW.trod_string Tryd.underlying9 t1
      injection g0 with g0 _
      injection g2 with g2 _
      have g1 := congrArg Prod.fst g1
      have g3 := congrArg Prod.fst g3
      simp only at g1 g3
      rw [g0, g1, g2, g3]
      exact ⟨rfl, rfl, rfl, rfl⟩
    refine ⟨some a, c1, (List.range n1).map fun i => (strOf (V0 i), strOf (V1 i)), by simp, ?_, ?_⟩
    · intro i q hq
      rw [List.getElem?_map] at hq
      obtain ⟨j, hj, rfl⟩ := Option.map_eq_some_iff.1 hq
      obtain ⟨hi, hj⟩ := List.getElem?_eq_some_iff.1 hj
      rw [List.getElem_range] at hj
      subst hj
      rw [List.length_range] at hi
      have hz := (hx 0 (by omega)).1
      have hz' : W.cell? a = some (V0 0) := by
        have e0 : a.add (0 * 2) = a := by simp [Addr.add]
        rw [e0] at hz; exact hz
      obtain ⟨ea, hlt⟩ := addr_some hz'
      obtain ⟨h0, h1, _, _⟩ := hx i (by omega)
      obtain ⟨s0, _, s1, _⟩ := hs i hi
      refine ⟨a.block, a.off, by rw [← ea], hlt, ?_, ?_⟩
      · rw [ea, add_off] at h0
        rw [h0, ← s0]
      · rw [ea, add_off] at h1
        rw [show a.off + i * 2 + 1 = a.off + (i * 2 + 1) by omega, h1, ← s1]
    · have hd := congrArg Prod.fst e2
      simp only at hd
      rw [hd]
      simp only [Rows.uptoBulk]
      have he : (List.range n1).map (fun i => DataW.agg [D0 i, D1 i]) = ((List.range n1).map fun i => (strOf (V0 i), strOf (V1 i))).map fun p => DataW.agg [.lit (.string p.1), .lit (.string p.2)] := by
        rw [List.map_map]
        apply List.map_congr_left
        intro i hi
        obtain ⟨_, g1, _, g3⟩ := hs i (List.mem_range.1 hi)
        simp only [Function.comp]
        rw [g1, g3]
      rw [he]
      have := bulk_pairs (H := H) ((List.range n1).map fun i => (strOf (V0 i), strOf (V1 i)))
      exact Nat.le_trans this (Nat.le_trans (Nat.le_add_right _ _) (Nat.le_succ _))
end Go.Proofs.YtbcbbeenkndgcaaDoor
