/-
  A state as an argument: opened and shut.
-/
import Derived.Test.YtlandmahjdaphaaDoorStV
import Derived.WalkKit
import Derived.ProofKit
import Derived.OpenShut
import Derived.ShutString
import Derived.Lib.SmallJoins
namespace Go.Proofs.YtlandmahjdaphaaDoor
open Go.ChangeShapes Go.WideShapes Go.ChangeAt Go.RowKit Go.Joins Go.Deep
set_option linter.unusedVariables false
set_option linter.unusedSimpArgs false
set_option linter.unnecessarySimpa false

def StV.wf (s : StV) : Prop := (Lit.int .i64 s.k).wf = true ∧ s.el.size ≤ maxLen ∧ s.at_.size ≤ maxLen ∧ (Lit.int .u8 s.d).wf = true ∧ s.pe.size ≤ maxLen ∧ s.re.size ≤ maxLen ∧ (Lit.int .i64 s.pa).wf = true ∧ s.wo.size ≤ maxLen
def StV.datum {H : Type} (s : StV) : DataW H := .agg [.lit (.int .i64 s.k), .lit (.string s.el.data.toList), .lit (.string s.at_.data.toList), .lit (.int .u8 s.d), .lit (.string s.pe.data.toList), .lit (.string s.re.data.toList), .lit (.int .i64 s.pa), .lit (.string s.wo.data.toList)]
section
variable {H : Type} {enc : TypeId × Value → H}
set_option maxRecDepth 100000 in
theorem open_state {w : World} {base : Nat} {sp : Nat → Bool} {held : Bool} {r : Reach} {b0 : Nat} {v : Value} {d : DataW H} {p : List MemPlace} (hv : Value.okWide Tryd.prog w r b0 29 v) (h : DataW.Trod enc Tryd.prog w base sp held 29 v d p) :
    ∃ s : StV, v = .agg #[.int .i64 s.k, .string s.el, .string s.at_, .int .u8 s.d, .string s.pe, .string s.re, .int .i64 s.pa, .string s.wo] ∧ d = s.datum ∧ p = [] ∧ s.wf := by
  have hC : Tryd.prog.cellsOf 29 = 8 := by kernel_rfl
  have c1 : Tryd.prog.cellsOf 3 = 1 := by kernel_rfl
  have c2 : Tryd.prog.cellsOf 9 = 1 := by kernel_rfl
  have c3 : Tryd.prog.cellsOf 5 = 1 := by kernel_rfl
  obtain ⟨cs, rfl, hsz⟩ := okWide_struct Tryd.underlying29 hv
  obtain ⟨l⟩ := cs
  match l, hsz.trans hC with
  | [c0, c1, c2, c3, c4, c5, c6, c7], _ =>
    obtain ⟨fuel, hf⟩ := h
    obtain ⟨xs, n, _, hx, _, hlen, hg⟩ := DataW.trod_struct Tryd.underlying29 hf
    match xs, hlen with
    | [y0, y1, y2, y3, y4, y5, y6, y7], _ =>
      simp only [Prod.mk.injEq] at hx
      have g0 := hg 0 _ rfl
      have g1 := hg 1 _ rfl
      have g2 := hg 2 _ rfl
      have g3 := hg 3 _ rfl
      have g4 := hg 4 _ rfl
      have g5 := hg 5 _ rfl
      have g6 := hg 6 _ rfl
      have g7 := hg 7 _ rfl
      simp [Value.cells, *] at g0 g1 g2 g3 g4 g5 g6 g7
      obtain ⟨k, e0, rfl, z0⟩ := DataW.trod_int Tryd.underlying3 g0
      obtain ⟨el, e1, rfl, z1⟩ := DataW.trod_string Tryd.underlying9 g1
      obtain ⟨at_, e2, rfl, z2⟩ := DataW.trod_string Tryd.underlying9 g2
      obtain ⟨d, e3, rfl, z3⟩ := DataW.trod_int Tryd.underlying5 g3
      obtain ⟨pe, e4, rfl, z4⟩ := DataW.trod_string Tryd.underlying9 g4
      obtain ⟨re, e5, rfl, z5⟩ := DataW.trod_string Tryd.underlying9 g5
      obtain ⟨pa, e6, rfl, z6⟩ := DataW.trod_int Tryd.underlying3 g6
      obtain ⟨wo, e7, rfl, z7⟩ := DataW.trod_string Tryd.underlying9 g7
      simp at e0 e1 e2 e3 e4 e5 e6 e7
      subst e0 e1 e2 e3 e4 e5 e6 e7
      exact ⟨⟨k, el, at_, d, pe, re, pa, wo⟩, rfl, by simpa [StV.datum] using hx.1, by simpa using hx.2, z0, z1, z2, z3, z4, z5, z6, z7⟩
set_option maxRecDepth 100000 in
theorem shut_state {w : World} {base : Nat} {sp : Nat → Bool} {held : Bool} (s : StV) (h : s.wf) : DataW.Trod enc Tryd.prog w base sp held 29 (.agg #[.int .i64 s.k, .string s.el, .string s.at_, .int .u8 s.d, .string s.pe, .string s.re, .int .i64 s.pa, .string s.wo]) s.datum [] := by
  have hC : Tryd.prog.cellsOf 29 = 8 := by kernel_rfl
  have c1 : Tryd.prog.cellsOf 3 = 1 := by kernel_rfl
  have c2 : Tryd.prog.cellsOf 9 = 1 := by kernel_rfl
  have c3 : Tryd.prog.cellsOf 5 = 1 := by kernel_rfl
  obtain ⟨z0, z1, z2, z3, z4, z5, z6, z7⟩ := h
  exact ⟨2, by simp [DataW.trod, Value.cells, StV.datum, Tryd.underlying29, Tryd.underlying3, Tryd.underlying9, Tryd.underlying5, hC, c1, c2, c3, z0, z1, z2, z3, z4, z5, z6, z7]⟩
end
end Go.Proofs.YtlandmahjdaphaaDoor
