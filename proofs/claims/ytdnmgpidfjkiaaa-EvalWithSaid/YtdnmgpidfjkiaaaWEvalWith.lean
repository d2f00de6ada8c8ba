/-
  EvalWith: THE WALK, at the arguments as the row has them.
-/
import Derived.Test.YtdnmgpidfjkiaaaVEvalW
import Derived.Test.YtdnmgpidfjkiaaaVEnvArg
namespace Go.Proofs.Ytdnmgpidfjkiaaa
open Go.ChangeShapes Go.WideShapes Go.ChangeAt Go.RowKit Go.Joins Go.Deep
set_option linter.unusedVariables false
set_option maxRecDepth 100000 in
/-- A value as an argument, at any depth that is enough. -/
theorem open_value_all {H : Type} {enc : TypeId × Value → H} {w : World} {r : Reach} {b0 : Nat} {v : Value} {d : DataW H} {p : List MemPlace} (hv : Value.okWide Try.prog w r b0 25 v) (h : DataW.Trod enc Try.prog w 0 (fun _ => true) true 25 v d p) :
    ∃ n : Nat, ∀ m, n ≤ m → ∃ t : VT m, IsV anyB w m v t ∧ (Rows.uptoBulk d ≤ 1048576 → SmallV m t) ∧ ((∀ z ∈ d.weights Try.prog 25, z ≤ 140737488351232) → SmallV m t) := by
  obtain ⟨cs, rfl, hsz⟩ := okWide_struct Try.underlying25 hv
  obtain ⟨l⟩ := cs
  obtain ⟨fuel, hf⟩ := h
  exact ⟨fuel, fun m hm => open_trod fuel m hm l _ hf⟩
theorem evalWith_walk (a0 : Value) (a1 : ByteArray) (s1 : a1.size ≤ 140737488351232) (a2 : Value) (a3 : ByteArray) (s3 : a3.size ≤ 140737488351232) (w : World)
    (n0 : Nat) (h0 : ∀ m, n0 ≤ m → ∃ (r d : VF) (a : Option Addr) (c : Nat) (root dot : VT m) (vars : List (List UInt8 × VT m)), a0 = .agg (envV r d a vars.length c) ∧ IsE anyB w m r d a root dot vars ∧ SmallE m root dot vars)
    (n2 : Nat) (h2 : ∀ m, n2 ≤ m → ∃ t : VT m, IsV anyB w m a2 t ∧ SmallV m t) :
    Calls Try.prog 3 #[a0, .string a1, a2, .string a3] w fun e w' => e = .returned (.bool true) ∧ Below w.heap.size w w' := by
  obtain ⟨r, d, a, c, root, dot, vars, rfl, hE, hS⟩ := h0 (n0 + n2 + 1) (by omega)
  obtain ⟨t, hI, hT⟩ := h2 (n0 + n2 + 1) (by omega)
  obtain ⟨e2, rfl⟩ := hI.shape
  have e1 : a1 = ⟨a1.data.toList.toArray⟩ := by cases a1; simp
  have e3 : a3 = ⟨a3.data.toList.toArray⟩ := by cases a3; simp
  rw [e1, e3]
  exact evalWith_tree _ r d e2 root dot t vars a c a1.data.toList a3.data.toList w hE hS hI hT
end Go.Proofs.Ytdnmgpidfjkiaaa
