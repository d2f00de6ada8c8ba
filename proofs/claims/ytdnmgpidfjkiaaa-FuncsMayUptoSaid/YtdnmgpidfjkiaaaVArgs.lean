/-
  A list of values as an argument: opened; and what it reads as behind the call.
-/
import Derived.Test.YtdnmgpidfjkiaaaVMass
namespace Go.Proofs.Ytdnmgpidfjkiaaa
open Go.ChangeShapes Go.WideShapes Go.ChangeAt Go.RowKit Go.Joins Go.Deep
set_option linter.unusedVariables false
set_option maxRecDepth 100000 in
theorem open_values {H : Type} {enc : TypeId × Value → H} {w : World} {r : Reach} {b0 : Nat} {v : Value} {d : DataW H} {p : List MemPlace} (hv : Value.okWide Try.prog w r b0 22 v) (h : DataW.Trod enc Try.prog w 0 (fun _ => true) true 22 v d p) :
    ∃ (n : Nat) (a : Option Addr) (c : Nat) (l : List (VT (n + 1))), v = .slice a l.length c ∧ ValsAt anyB w (IsV anyB w (n + 1)) a l ∧ sumBy (massV (n + 1)) l ≤ Rows.uptoBulk d ∧ ∀ y ∈ l, NumV (n + 1) y := by
  obtain ⟨a0, len, cap, rfl⟩ := okWide_slice Try.underlying22 hv
  obtain ⟨fuel, hf⟩ := h
  have hf' : DataW.trod enc Try.prog w 0 (fun _ => true) true fuel 22 [.slice a0 len cap] = some (d, p) := hf
  obtain ⟨a, c, l, he, h1, h2, h3⟩ := open_values_mass (m := fuel + 1) (by omega) _ _ hf'
  simp at he
  obtain ⟨rfl, rfl, rfl⟩ := he
  have h2 : sumBy (massV (fuel + 1)) l + 1 ≤ Rows.uptoBulk d := h2
  exact ⟨fuel, a0, cap, l, rfl, h1, by omega, h3⟩
set_option maxRecDepth 100000 in
/-- A list of values behind the call. -/
theorem again_values {H : Type} {enc : TypeId × Value → H} {W W' : World} {v : Value} {d : DataW H} {ps : List MemPlace} (h : DataW.Trod enc Try.prog W 0 (fun _ => true) true 22 v d ps) (hb : Below W.heap.size W W') (hlt : ∀ x ∈ ps, x.block < W.heap.size) (sp : Nat → Bool) (hsp : ∀ x ∈ ps, sp x.block = true) :
    DataW.Trod enc Try.prog W' 0 sp true 22 v d ps :=
  WideElems.Trod_stays laidOutV (by kernel_rfl) (of_decide_eq_true (by kernel_rfl)) h (fun x hx => hb.same (hlt x hx)) hsp
end Go.Proofs.Ytdnmgpidfjkiaaa
