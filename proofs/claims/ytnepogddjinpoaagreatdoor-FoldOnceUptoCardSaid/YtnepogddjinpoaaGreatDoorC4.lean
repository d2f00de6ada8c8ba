/-
  PLAIN LAWS of many texts, in one.
-/
import Derived.Test.YtnepogddjinpoaaGreatDoorM9
import Derived.Test.YtnepogddjinpoaaGreatDoorC3
import Derived.Test.YtnepogddjinpoaaGreatDoorQB
import Derived.OrdersHeld
namespace Go.Proofs.YtnepogddjinpoaaGreatDoor
open Go.ChangeShapes Go.WideShapes Go.ChangeAt Go.RowKit Go.Joins Go.Deep
set_option linter.unusedVariables false
set_option linter.unusedSimpArgs false

def numA (x : ArgD) : Prop := -9223372036854775808 ≤ x.i ∧ x.i ≤ 9223372036854775807
def numC (x : CallD) : Prop := ∀ y ∈ x.args, numA y
/-- What R says of it, and P. -/
abbrev WithP {α : Type} (R : Rel α) (P : α → Prop) : Rel α := fun U w vs x => R U w vs x ∧ P x
theorem AtR.both {α : Type} {R : Rel α} {P : α → Prop} {size : Nat} {U : World → Nat → Prop} {w : World} {a : Option Addr} {l : List α} (h : AtR (WithP R P) size U w a l) : AtR R size U w a l ∧ ∀ x ∈ l, P x := by
  refine ⟨fun j x hx => ?_, fun x hx => ?_⟩
  · obtain ⟨b, off, vs, h1, h2, h3, h4, h5, h6⟩ := h j x hx
    exact ⟨b, off, vs, h1, h2, h3, h4, h5, h6.1⟩
  · obtain ⟨j, hj⟩ := List.getElem?_of_mem hx
    obtain ⟨b, off, vs, h1, h2, h3, h4, h5, h6⟩ := h j x hj
    exact h6.2
section
variable {H : Type} {enc : TypeId × Value → H}
set_option maxRecDepth 100000 in
theorem open_argN {w : World} {fuel : Nat} (cs : List Value) (x : DataW H × List MemPlace) (h : DataW.trod enc Tryz.prog w 0 (fun _ => true) true fuel 35 cs = some x) : ∃ d : ArgD, WithP ArgR numA anyB w cs d ∧ massA d ≤ Rows.uptoBulk x.1 := by
  obtain ⟨d, hR, hm⟩ := open_argE cs x h
  have hC : Tryz.prog.cellsOf 35 = 5 := by kernel_rfl
  have c1 : Tryz.prog.cellsOf 3 = 1 := by kernel_rfl
  have c2 : Tryz.prog.cellsOf 9 = 1 := by kernel_rfl
  have c4 : Tryz.prog.cellsOf 24 = 1 := by kernel_rfl
  obtain ⟨xs, n, hfu, hx, hcl, hlen, hg⟩ := DataW.trod_struct Tryz.underlying35 h
  rw [hC] at hcl
  refine ⟨d, ⟨hR, ?_⟩, hm⟩
  obtain ⟨a, c, hcs, _⟩ := hR
  subst hcs
  match xs, hlen with
  | [y0, y1, y2, y3, y4], _ =>
    have g3 := hg 3 _ rfl
    simp [c1, c2, c4] at g3
    obtain ⟨i, e3, d3, wi⟩ := DataW.trod_int Tryz.underlying3 g3
    have bi := bounds_i64 wi
    simp at e3
    rw [← e3] at bi
    exact bi
set_option maxRecDepth 100000 in
theorem open_callN {w : World} {fuel : Nat} (cs : List Value) (x : DataW H × List MemPlace) (h : DataW.trod enc Tryz.prog w 0 (fun _ => true) true fuel 33 cs = some x) : ∃ d : CallD, WithP CallR numC anyB w cs d ∧ massC d ≤ Rows.uptoBulk x.1 := by
  have hC : Tryz.prog.cellsOf 33 = 2 := by kernel_rfl
  have c2 : Tryz.prog.cellsOf 9 = 1 := by kernel_rfl
  have c4 : Tryz.prog.cellsOf 31 = 1 := by kernel_rfl
  obtain ⟨xs, n, hfu, hx, hcl, hlen, hg⟩ := DataW.trod_struct Tryz.underlying33 h
  rw [hC] at hcl
  match cs, hcl, xs, hlen with
  | [v0, v1], _, [y0, y1], _ =>
    have g0 := hg 0 _ rfl
    have g1 := hg 1 _ rfl
    simp [c2, c4] at g0 g1
    obtain ⟨nm, e0, d0, _⟩ := DataW.trod_string Tryz.underlying9 g0
    obtain ⟨a1, c1', args, e1, hS, hS1⟩ := open_list (size := 5) Tryz.underlying31 (by kernel_rfl) (by decide) (WithP ArgR numA) massA (fun n2 _ cs x h => open_argN cs x h) g1
    simp at e0 e1
    subst e0; subst e1
    have hb : Rows.uptoBulk x.1 = Rows.uptoBulk y0.1 + (Rows.uptoBulk y1.1 + 0) + 1 := by rw [hx]; rfl
    have h0 : nm.data.toList.length + 1 ≤ Rows.uptoBulk y0.1 := by rw [d0]; simp [Rows.uptoBulk]
    obtain ⟨hS2, hS3⟩ := hS.both
    refine ⟨⟨nm.data.toList, args⟩, ⟨⟨a1, c1', by simp only [str_back], hS2⟩, hS3⟩, ?_⟩
    unfold massC
    simp only
    omega
end
end Go.Proofs.YtnepogddjinpoaaGreatDoor

namespace Go.Proofs.YtnepogddjinpoaaGreatDoor
open Go.RowKit
set_option linter.unusedVariables false
set_option linter.unusedSimpArgs false

end Go.Proofs.YtnepogddjinpoaaGreatDoor

namespace Go.Proofs.YtnepogddjinpoaaGreatDoor
open Go.RowKit
set_option linter.unusedVariables false
set_option linter.unusedSimpArgs false

section
variable {P : Program} {md : Region.Mode} {ops : Array Oper} {Q : Exit → Act → World → Prop}
end
end Go.Proofs.YtnepogddjinpoaaGreatDoor

namespace Go.Proofs.YtnepogddjinpoaaGreatDoor
open Go.RowKit
set_option linter.unusedVariables false
set_option linter.unusedSimpArgs false

end Go.Proofs.YtnepogddjinpoaaGreatDoor
