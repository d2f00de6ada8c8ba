/-
  A state, as the program holds it.
-/
import Derived.Test.YtlandmahjdaphaaDoorStEq
import Derived.Test.YtlandmahjdaphaaDoorMarks
namespace Go.Proofs.YtlandmahjdaphaaDoor
open Go.RowKit
set_option linter.unusedVariables false
set_option linter.unusedSimpArgs false

/-- A state, as the program holds it. -/
structure StV where
  k : Int
  el : ByteArray
  at_ : ByteArray
  d : Int
  pe : ByteArray
  re : ByteArray
  pa : Int
  wo : ByteArray
def StV.cells (s : StV) : Array Value := #[.int .i64 s.k, .string s.el, .string s.at_, .int .u8 s.d, .string s.pe, .string s.re, .int .i64 s.pa, .string s.wo]
def StV.agg (s : StV) : Value := .agg #[.int .i64 s.k, .string s.el, .string s.at_, .int .u8 s.d, .string s.pe, .string s.re, .int .i64 s.pa, .string s.wo]
def StV.none_ : StV := ⟨0, ⟨#[]⟩, ⟨#[]⟩, 0, ⟨#[]⟩, ⟨#[]⟩, 0, ⟨#[]⟩⟩
def StV.same (s t : StV) : Bool := sameV s.k s.el s.at_ s.d s.pe s.re s.pa s.wo t.k t.el t.at_ t.d t.pe t.re t.pa t.wo
def StV.chk (s : StV) : Int := chkM s.k s.el.data.toList s.at_.data.toList s.d s.pe.data.toList s.re.data.toList s.pa s.wo.data.toList
def StV.ok (s : StV) : Prop := 0 ≤ s.d ∧ s.d ≤ 255
theorem bytes_eq {a b : ByteArray} (h : a.toList = b.toList) : a = b := by
  rw [ByteArray.toList_eq, ByteArray.toList_eq] at h
  cases a; cases b
  simp at h
  rw [h]
theorem same_iff (s t : StV) : s.same t = true ↔ s = t := by
  constructor
  · intro h
    unfold StV.same sameV at h
    simp only [Bool.and_eq_true, beq_iff_eq] at h
    obtain ⟨h0, h1, h2, h3, h4, h5, h6, h7⟩ := h
    cases s; cases t
    simp only at h0 h1 h2 h3 h4 h5 h6 h7
    rw [h0, bytes_eq h1, bytes_eq h2, h3, bytes_eq h4, bytes_eq h5, h6, bytes_eq h7]
  · rintro rfl
    unfold StV.same sameV
    simp
@[go_sem] theorem buildState (w : World) : (Instr.build 29 #[]).run Tryd.prog w = .ok (.agg #[.int .i64 0, .string ⟨#[]⟩, .string ⟨#[]⟩, .int .u8 0, .string ⟨#[]⟩, .string ⟨#[]⟩, .int .i64 0, .string ⟨#[]⟩]) w := run_build w 29 _ _ (by kernel_rfl)
theorem Blk.eight {w : World} {g : Nat} {t : TypeId} {v0 v1 v2 v3 v4 v5 v6 v7 : Value} (h : Blk w g t #[v0, v1, v2, v3, v4, v5, v6, v7]) :
    w.cell? ⟨g, 0, none⟩ = some v0 ∧ w.cell? ⟨g, 1, none⟩ = some v1 ∧ w.cell? ⟨g, 2, none⟩ = some v2 ∧ w.cell? ⟨g, 3, none⟩ = some v3 ∧ w.cell? ⟨g, 4, none⟩ = some v4 ∧ w.cell? ⟨g, 5, none⟩ = some v5 ∧ w.cell? ⟨g, 6, none⟩ = some v6 ∧ w.cell? ⟨g, 7, none⟩ = some v7 :=
  ⟨h.cell 0, h.cell 1, h.cell 2, h.cell 3, h.cell 4, h.cell 5, h.cell 6, h.cell 7⟩
theorem below_eight {B g : Nat} {a w : World} {v0 v1 v2 v3 v4 v5 v6 v7 : Value} (h : Below B a w) (hg : B ≤ g) : Below B a ((((((((w.setCell ⟨g, 0, none⟩ v0).setCell ⟨g, 1, none⟩ v1).setCell ⟨g, 2, none⟩ v2).setCell ⟨g, 3, none⟩ v3).setCell ⟨g, 4, none⟩ v4).setCell ⟨g, 5, none⟩ v5).setCell ⟨g, 6, none⟩ v6).setCell ⟨g, 7, none⟩ v7) :=
  (((((((h.setCell (p := ⟨g, 0, none⟩) hg _).setCell (p := ⟨g, 1, none⟩) hg _).setCell (p := ⟨g, 2, none⟩) hg _).setCell (p := ⟨g, 3, none⟩) hg _).setCell (p := ⟨g, 4, none⟩) hg _).setCell (p := ⟨g, 5, none⟩) hg _).setCell (p := ⟨g, 6, none⟩) hg _).setCell (p := ⟨g, 7, none⟩) hg _
theorem Blk.put8 {w : World} {g : Nat} {t : TypeId} {a0 a1 a2 a3 a4 a5 a6 a7 : Value} (h : Blk w g t #[a0, a1, a2, a3, a4, a5, a6, a7]) (v0 v1 v2 v3 v4 v5 v6 v7 : Value) :
    Blk ((((((((w.setCell ⟨g, 0, none⟩ v0).setCell ⟨g, 1, none⟩ v1).setCell ⟨g, 2, none⟩ v2).setCell ⟨g, 3, none⟩ v3).setCell ⟨g, 4, none⟩ v4).setCell ⟨g, 5, none⟩ v5).setCell ⟨g, 6, none⟩ v6).setCell ⟨g, 7, none⟩ v7) g t #[v0, v1, v2, v3, v4, v5, v6, v7] := by
  have := (((((((h.set_ 0 v0).set_ 1 v1).set_ 2 v2).set_ 3 v3).set_ 4 v4).set_ 5 v5).set_ 6 v6).set_ 7 v7
  simpa using this
end Go.Proofs.YtlandmahjdaphaaDoor
