/-
  The page's example a{{"b"}}c, compiled (muslinref25.Compile).
-/
import Derived.Test.YtnepogddjinpoaaGreatDoorExUnit
namespace Go.Proofs.YtnepogddjinpoaaGreatDoor
open Go.RowKit
set_option linter.unusedVariables false
set_option linter.unusedSimpArgs false

/-- The example's units: one, of three nodes. -/
structure ExU (w : World) (N gu cu gn cn : Nat) (vp : Value) : Prop where
  u : AtB w gu (unitE gn cn)
  n : AtB w gn (exNodesE vp)
  p : ExPipe w N vp
  guN : N ≤ gu
  gnN : N ≤ gn
set_option maxHeartbeats 4000000 in
set_option maxRecDepth 100000 in
theorem infer_ex (w : World) (N gd g c : Nat) (vp : Value) (D : ExD w N gd g c vp) (hN : N ≤ w.heap.size) :
    Calls Tryz.prog 33 #[.slice (some ⟨gd, 0, none⟩) 1 1] w fun e w' => ∃ gu cu gn cn, e = .returned (.tuple #[.slice (some ⟨gu, 0, none⟩) 1 cu, .int .i64 0, .int .i64 0]) ∧ ExU w' N gu cu gn cn vp ∧ Below w.heap.size w w' := by
  go_enter Tryz.func33, Tryz.ntmps33
  go_wp2_with fail
  refine (check22_ex w N gd g c vp D).mono ?_
  rintro e w1 ⟨rfl, hb1⟩
  have C1 := Chg.of_below (S := []) hb1
  have HP := True.intro
  go_wp2_with fail
  refine name_world fun W hW => ?_
  have C2 : Chg [] w W := by subst hW; (repeat' (first | with_reducible exact C1 | with_reducible exact Chg.refl _ _ | with_reducible refine Chg.alloc ?_ _ | with_reducible refine Chg.drew ?_ | with_reducible refine Chg.drewN ?_ _ | with_reducible refine Chg.set_ ?_ _ _ (by first | (simp; done) | (simp; omega) | omega)))
  have CW : Chg [] w1 W := by subst hW; (repeat' (first | with_reducible exact Chg.refl _ _ | with_reducible refine Chg.alloc ?_ _ | with_reducible refine Chg.drew ?_ | with_reducible refine Chg.drewN ?_ _ | with_reducible refine Chg.set_ ?_ _ _ (by first | (simp; done) | (simp; omega) | omega)))
  have K : Blk W w1.heap.size 115 #[.slice (some ⟨gd, 0, none⟩) 1 1, .slice none 0 0, .slice none 0 0, .slice none 0 0, .slice none 0 0, .int .i64 0, .int .i64 0, .int .i64 0] := by subst hW; (repeat' (first | with_reducible exact Blk.new_ (by first | rfl | (simp; done) | (simp; omega)) | with_reducible refine Blk.alloc_ ?_ | with_reducible refine Blk.drew ?_ | with_reducible refine Blk.drewN ?_ _ | with_reducible refine Blk.far_ ?_ (by first | (simp; done) | (simp; omega) | omega) | with_reducible apply Blk.set_eq | rfl))
  have D2 := D.chg C2 (by simp)
  have s1 := C1.size
  have sW : w1.heap.size < W.heap.size := K.lt
  have HC1 := hide C1
  have D1 := D.chg C1 (by simp)
  clear hW hb1
  refine (unit25_ex W w1.heap.size N gd g c vp K (fun w' h => D1.chg (S := []) ((CW.mono (S' := [w1.heap.size]) (by simp)).trans h (fun x hx => .inl hx) |>.mono (by intro x hx; simp at hx; subst hx; exact .inr (Nat.le_refl _))) (by simp))).mono ?_
  rintro e w3 ⟨rfl, gu, cu, gn, cn, v2, v3, v4, C3, K3, aU, aN, hE, hgu, hgn⟩
  have HC3 := hide ((C2.mono (S' := [w1.heap.size]) (by simp)).trans C3 (fun x hx => .inl hx) |>.mono (S' := []) (by intro x hx; simp at hx; subst hx; exact .inr s1))
  have HU : Hid (ExU w3 N gu cu gn cn vp) := ExU.mk aU aN hE (by omega) (by omega)
  have k0 := K3.cell 0; have k1 := K3.cell 1; have k2 := K3.cell 2; have k3 := K3.cell 3; have k4 := K3.cell 4; have k5 := K3.cell 5; have k6 := K3.cell 6; have k7 := K3.cell 7; simp at k0 k1 k2 k3 k4 k5 k6 k7
  have l3 := K3.lt
  clear K3 aU aN hE C3 K D2 CW C2 C1 D1 D HP
  go_wp2_with fail
  go_ret3
  refine ⟨gu, cu, gn, cn, rfl, ?_⟩
  refine name_it (C := fun W4 => ExU W4 N gu cu gn cn vp ∧ Below w.heap.size w W4) fun W4 hW4 => ?_
  have C4 : Chg [] w3 W4 := by subst hW4; (repeat' (first | with_reducible exact Chg.refl _ _ | with_reducible refine Chg.alloc ?_ _ | with_reducible refine Chg.drew ?_ | with_reducible refine Chg.drewN ?_ _ | with_reducible refine Chg.set_ ?_ _ _ (by first | (simp; done) | (simp; omega) | omega)))
  exact ⟨⟨HU.out.u.chg C4 (by simp), HU.out.n.chg C4 (by simp), HU.out.p.chg C4 (by simp), HU.out.guN, HU.out.gnN⟩, (HC3.out.trans C4 (by simp)).bel⟩
set_option maxHeartbeats 4000000 in
set_option maxRecDepth 100000 in
theorem compile_ex (w : World) : Calls Tryz.prog 19 #[.string exText] w fun e w' => ∃ gu cu gn cn vp, e = .returned (.tuple #[.slice (some ⟨gu, 0, none⟩) 1 cu, .int .i64 0, .int .i64 0]) ∧ ExU w' w.heap.size gu cu gn cn vp ∧ Below w.heap.size w w' := by
  go_enter Tryz.func19, Tryz.ntmps19
  go_wp2_with fail
  refine (parse20_ex w).mono ?_
  rintro e w1 ⟨gd, g, c, vp, rfl, D, hb1⟩
  have hs := hb1.size
  go_wp2_with fail
  refine (infer_ex w1 w.heap.size gd g c vp D hs).mono ?_
  rintro e w2 ⟨gu, cu, gn, cn, rfl, U, hb2⟩
  go_wp2_with fail
  go_ret3
  exact ⟨gu, cu, gn, cn, vp, rfl, U, below_step hb1 hb2⟩
end Go.Proofs.YtnepogddjinpoaaGreatDoor
