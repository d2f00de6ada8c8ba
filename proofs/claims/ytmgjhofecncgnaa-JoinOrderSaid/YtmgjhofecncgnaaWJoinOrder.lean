/-
  JoinOrder: in whatever order ways meet, they meet, or do not. THE WALK.
-/
import Derived.Test.YtmgjhofecncgnaaLaw24
namespace Go.Proofs.Ytmgjhofecncgnaa
open Go.RowKit
set_option linter.unusedVariables false

theorem joinOrder_walk (s : StV) (h1 : s.ok) (t : StV) (h2 : t.ok) (u : StV) (h3 : u.ok) (w : World) :
    Calls Try.prog 8 #[s.agg, t.agg, u.agg] w fun e w' => e = .returned (.bool true) ∧ Below w.heap.size w w' := by
  refine order_gen s t u _ _ _ _ _ _ (join3_any s t u h1 h2 h3) (join3_any u s t h3 h1 h2) (join3_any t u s h2 h3 h1) ?_ w
  by_cases h : StV.chk s = 0 ∧ t = s ∧ u = s
  · obtain ⟨h1, rfl, rfl⟩ := h
    rw [joinS_yes _ _ _ h1 (by simp)]
    exact .inl ⟨rfl, rfl, rfl, rfl, rfl⟩
  · refine .inr ⟨?_, ?_, ?_⟩
    · have := joinS_no StV.chk s [t, u] (fun ⟨k1, k2⟩ => h ⟨k1 s (by simp), k2 t (by simp), k2 u (by simp)⟩)
      simpa using this
    · have := joinS_no StV.chk u [s, t] (fun ⟨k1, k2⟩ => h ⟨k1 s (by simp), (k2 t (by simp)).trans (k2 s (by simp)).symm, (k2 s (by simp)).symm⟩)
      simpa using this
    · have := joinS_no StV.chk t [u, s] (fun ⟨k1, k2⟩ => h ⟨k1 s (by simp), (k2 s (by simp)).symm, (k2 u (by simp)).trans (k2 s (by simp)).symm⟩)
      simpa using this
end Go.Proofs.Ytmgjhofecncgnaa
