/-
  PLAIN LAWS of many texts, in one.
-/
import Derived.Test.YtnepogddjinpoaaGreatDoorC1
import Derived.Test.YtnepogddjinpoaaGreatDoorC2
namespace Go.Proofs.YtnepogddjinpoaaGreatDoor
open Go.RowKit
set_option linter.unusedVariables false
set_option linter.unusedSimpArgs false

set_option maxHeartbeats 1000000 in
set_option maxRecDepth 100000 in
theorem cTwo_eq_cells (k i : Int) (s : ByteArray) (a : Option Addr) (n c : Nat) (a2 : Option Addr) (n2 c2 : Nat) (K I : Int) (S : ByteArray) (A1 : Option Addr) (N Cp : Nat) (A3 : Option Addr) (N2 Cq : Nat) (w : World) (b : Bool) (hS : ∀ W, Below w.heap.size w W → Calls Tryz.prog 9 #[.agg (vCells k i s a n c a2 n2 c2), .agg (vCells K I S A1 N Cp A3 N2 Cq)] W fun e w' => e = .returned (.bool b) ∧ Below W.heap.size W w') :
    Calls Tryz.prog 47 #[.string ⟨#[101, 113]⟩, .agg (vCells k i s a n c a2 n2 c2), .agg (vCells K I S A1 N Cp A3 N2 Cq)] w fun e w' => e = .returned (.tuple #[vFlat (if b then 2 else 1) 0 ⟨#[]⟩, .int .i64 0]) ∧ Below w.heap.size w w' := by
  have cS := hide hS
  have cR := hide (fun W => cTruth b W)
  obtain ⟨kk, hkk⟩ : ∃ kk : Int, (if b then (2 : Int) else 1) = kk := ⟨_, rfl⟩
  rw [hkk]
  rw [hkk] at cR
  clear hkk hS
  have cT := hide (fun W => cValTruth k i s a n c a2 n2 c2 W)
  obtain ⟨q, hq⟩ : ∃ q, truthC k i s n = q := ⟨_, rfl⟩
  rw [hq] at cT
  clear hq
  go_enter Tryz.func47, Tryz.ntmps47
  go_wp2_with fail
  refine name_world fun W hW => ?_
  have C1 : Chg [] w W := by subst hW; (repeat' (first | with_reducible exact Chg.refl _ _ | with_reducible refine Chg.alloc ?_ _ | with_reducible refine Chg.drew ?_ | with_reducible refine Chg.drewN ?_ _ | with_reducible refine Chg.set_ ?_ _ _ (by first | (simp; done) | (simp; omega) | omega)))
  have KA : Blk W w.heap.size 26 (vCells k i s a n c a2 n2 c2) := by subst hW; (repeat' (first | with_reducible exact Blk.new_ (by first | rfl | (simp; done) | (simp; omega)) | with_reducible refine Blk.alloc_ ?_ | with_reducible refine Blk.drew ?_ | with_reducible refine Blk.drewN ?_ _ | with_reducible refine Blk.far_ ?_ (by first | (simp; done) | (simp; omega) | omega) | with_reducible apply Blk.set_eq | rfl))
  have KB : Blk W (w.heap.size + 1) 26 (vCells K I S A1 N Cp A3 N2 Cq) := by subst hW; (repeat' (first | with_reducible exact Blk.new_ (by first | rfl | (simp; done) | (simp; omega)) | with_reducible refine Blk.alloc_ ?_ | with_reducible refine Blk.drew ?_ | with_reducible refine Blk.drewN ?_ _ | with_reducible refine Blk.far_ ?_ (by first | (simp; done) | (simp; omega) | omega) | with_reducible apply Blk.set_eq | rfl))
  have KR : Blk W (w.heap.size + 2) 26 (vCells 0 0 ⟨#[]⟩ none 0 0 none 0 0) := by subst hW; (repeat' (first | with_reducible exact Blk.new_ (by first | rfl | (simp; done) | (simp; omega)) | with_reducible refine Blk.alloc_ ?_ | with_reducible refine Blk.drew ?_ | with_reducible refine Blk.drewN ?_ _ | with_reducible refine Blk.far_ ?_ (by first | (simp; done) | (simp; omega) | omega) | with_reducible apply Blk.set_eq | rfl))
  clear hW
  refine (cT.out W).mono ?_
  rintro e w1 ⟨rfl, hb1⟩
  have C2 := C1.trans (Chg.of_below (S := []) hb1) (by simp)
  have KA := KA.chg (Chg.of_below (S := []) hb1) (by simp)
  have KB := KB.chg (Chg.of_below (S := []) hb1) (by simp)
  have KR := KR.chg (Chg.of_below (S := []) hb1) (by simp)
  clear hb1 C1
  have k0 := KA.cell 0; have k1 := KA.cell 1; have k2 := KA.cell 2; have k3 := KA.cell 3; have k4 := KA.cell 4; simp at k0 k1 k2 k3 k4
  have j0 := KB.cell 0; have j1 := KB.cell 1; have j2 := KB.cell 2; have j3 := KB.cell 3; have j4 := KB.cell 4; simp at j0 j1 j2 j3 j4
  have lA := KA.lt; have lB := KB.lt
  go_wp2_with fail
  refine (cS.out w1 C2.bel).mono ?_
  rintro e w2 ⟨rfl, hb2⟩
  have C2 := C2.trans (Chg.of_below (S := []) hb2) (by simp)
  have KA := KA.chg (Chg.of_below (S := []) hb2) (by simp)
  have KB := KB.chg (Chg.of_below (S := []) hb2) (by simp)
  have KR := KR.chg (Chg.of_below (S := []) hb2) (by simp)
  clear hb2 k0 k1 k2 k3 k4 j0 j1 j2 j3 j4 lA lB
  go_wp2_with fail
  refine (cR.out w2).mono ?_
  rintro e w3 ⟨rfl, hb2⟩
  have C2 := C2.trans (Chg.of_below (S := []) hb2) (by simp)
  have KA := KA.chg (Chg.of_below (S := []) hb2) (by simp)
  have KB := KB.chg (Chg.of_below (S := []) hb2) (by simp)
  have KR := KR.chg (Chg.of_below (S := []) hb2) (by simp)
  clear hb2
  have HC2 := hide C2
  have HR := hide KR
  have k0 := KA.cell 0; have k1 := KA.cell 1; have k2 := KA.cell 2; have k3 := KA.cell 3; have k4 := KA.cell 4; simp at k0 k1 k2 k3 k4
  have j0 := KB.cell 0; have j1 := KB.cell 1; have j2 := KB.cell 2; have j3 := KB.cell 3; have j4 := KB.cell 4; simp at j0 j1 j2 j3 j4
  have r0 := KR.cell 0; have r1 := KR.cell 1; have r2 := KR.cell 2; have r3 := KR.cell 3; have r4 := KR.cell 4; simp at r0 r1 r2 r3 r4
  have z0 := KR.frozen 0; have z1 := KR.frozen 1; have z2 := KR.frozen 2; have z3 := KR.frozen 3; have z4 := KR.frozen 4
  have lA := KA.lt; have lB := KB.lt; have lR := KR.lt
  clear KA KB KR C2
  go_wp2_with fail
  refine name_postO fun W hW => ?_
  have C3 : Chg [w.heap.size + 2] w3 W := by subst hW; (repeat' (first | with_reducible exact Chg.refl _ _ | with_reducible refine Chg.alloc ?_ _ | with_reducible refine Chg.drew ?_ | with_reducible refine Chg.drewN ?_ _ | with_reducible refine Chg.set_ ?_ _ _ (by first | (simp; done) | (simp; omega) | omega)))
  have K2 : Blk W (w.heap.size + 2) 26 (vCells kk 0 ⟨#[]⟩ none 0 0 none 0 0) := by subst hW; (repeat' (first | with_reducible exact HR.out | with_reducible exact Blk.new_ (by first | rfl | (simp; done) | (simp; omega)) | with_reducible refine Blk.alloc_ ?_ | with_reducible refine Blk.drew ?_ | with_reducible refine Blk.drewN ?_ _ | with_reducible refine Blk.far_ ?_ (by first | (simp; done) | (simp; omega) | omega) | with_reducible apply Blk.set_eq | rfl))
  clear k0 k1 k2 k3 k4 j0 j1 j2 j3 j4 r0 r1 r2 r3 r4 z0 z1 z2 z3 z4
  have k0 := K2.cell 0; have k1 := K2.cell 1; have k2 := K2.cell 2; have k3 := K2.cell 3; have k4 := K2.cell 4; simp at k0 k1 k2 k3 k4
  clear hW K2
  simp [bodyPost, results, Tryz.results47, go_sem, k0, k1, k2, k3, k4]
  exact ((HC2.out.mono (S' := [w.heap.size + 2]) (by simp)).trans C3 (by simp) |>.mono (S' := []) (by intro x hx; simp at hx; subst hx; exact .inr (by omega))).bel
end Go.Proofs.YtnepogddjinpoaaGreatDoor

namespace Go.Proofs.YtnepogddjinpoaaGreatDoor
open Go.RowKit
set_option linter.unusedVariables false
set_option linter.unusedSimpArgs false

set_option maxHeartbeats 1000000 in
set_option maxRecDepth 100000 in
theorem cTwo_join_cells (i : Int) (s : ByteArray) (a : Option Addr) (n c : Nat) (a2 : Option Addr) (n2 c2 : Nat) (I : Int) (S : ByteArray) (A1 : Option Addr) (N Cp : Nat) (A3 : Option Addr) (N2 Cq : Nat) (w : World) (t : ByteArray) (hS : ∀ W, Below w.heap.size w W → Calls Tryz.prog 44 #[.slice a n c, .string S] W fun e w' => e = .returned (.string t) ∧ Below W.heap.size W w') :
    Calls Tryz.prog 47 #[.string ⟨#[106, 111, 105, 110]⟩, .agg (vCells 5 i s a n c a2 n2 c2), .agg (vCells 4 I S A1 N Cp A3 N2 Cq)] w fun e w' => e = .returned (.tuple #[madeV t, .int .i64 (madeE t)]) ∧ Below w.heap.size w w' := by
  have e_eq : ((⟨#[106, 111, 105, 110]⟩ : ByteArray) == ⟨#[101, 113]⟩) = false := by decide +kernel
  have e_lt : ((⟨#[106, 111, 105, 110]⟩ : ByteArray) == ⟨#[108, 116]⟩) = false := by decide +kernel
  have e_and : ((⟨#[106, 111, 105, 110]⟩ : ByteArray) == ⟨#[97, 110, 100]⟩) = false := by decide +kernel
  have e_or : ((⟨#[106, 111, 105, 110]⟩ : ByteArray) == ⟨#[111, 114]⟩) = false := by decide +kernel
  have e_default : ((⟨#[106, 111, 105, 110]⟩ : ByteArray) == ⟨#[100, 101, 102, 97, 117, 108, 116]⟩) = false := by decide +kernel
  have e_index : ((⟨#[106, 111, 105, 110]⟩ : ByteArray) == ⟨#[105, 110, 100, 101, 120]⟩) = false := by decide +kernel
  have cS := hide hS
  have cR := hide (fun W => cMade t W)
  obtain ⟨kz, sz, hz⟩ : ∃ (kz : Int) (sz : ByteArray), madeV t = vFlat kz 0 sz := by unfold madeV; split; exact ⟨_, _, rfl⟩; exact ⟨_, _, rfl⟩
  obtain ⟨ez, he⟩ : ∃ ez, madeE t = ez := ⟨_, rfl⟩
  rw [hz, he]
  rw [hz, he] at cR
  clear hz he hS
  have cT := hide (fun W => cValTruth 5 i s a n c a2 n2 c2 W)
  obtain ⟨q, hq⟩ : ∃ q, truthC 5 i s n = q := ⟨_, rfl⟩
  rw [hq] at cT
  clear hq
  go_enter Tryz.func47, Tryz.ntmps47
  go_wp2_with fail
  refine name_world fun W hW => ?_
  have C1 : Chg [] w W := by subst hW; (repeat' (first | with_reducible exact Chg.refl _ _ | with_reducible refine Chg.alloc ?_ _ | with_reducible refine Chg.drew ?_ | with_reducible refine Chg.drewN ?_ _ | with_reducible refine Chg.set_ ?_ _ _ (by first | (simp; done) | (simp; omega) | omega)))
  have KA : Blk W w.heap.size 26 (vCells 5 i s a n c a2 n2 c2) := by subst hW; (repeat' (first | with_reducible exact Blk.new_ (by first | rfl | (simp; done) | (simp; omega)) | with_reducible refine Blk.alloc_ ?_ | with_reducible refine Blk.drew ?_ | with_reducible refine Blk.drewN ?_ _ | with_reducible refine Blk.far_ ?_ (by first | (simp; done) | (simp; omega) | omega) | with_reducible apply Blk.set_eq | rfl))
  have KB : Blk W (w.heap.size + 1) 26 (vCells 4 I S A1 N Cp A3 N2 Cq) := by subst hW; (repeat' (first | with_reducible exact Blk.new_ (by first | rfl | (simp; done) | (simp; omega)) | with_reducible refine Blk.alloc_ ?_ | with_reducible refine Blk.drew ?_ | with_reducible refine Blk.drewN ?_ _ | with_reducible refine Blk.far_ ?_ (by first | (simp; done) | (simp; omega) | omega) | with_reducible apply Blk.set_eq | rfl))
  have KR : Blk W (w.heap.size + 2) 26 (vCells 0 0 ⟨#[]⟩ none 0 0 none 0 0) := by subst hW; (repeat' (first | with_reducible exact Blk.new_ (by first | rfl | (simp; done) | (simp; omega)) | with_reducible refine Blk.alloc_ ?_ | with_reducible refine Blk.drew ?_ | with_reducible refine Blk.drewN ?_ _ | with_reducible refine Blk.far_ ?_ (by first | (simp; done) | (simp; omega) | omega) | with_reducible apply Blk.set_eq | rfl))
  clear hW
  refine (cT.out W).mono ?_
  rintro e w1 ⟨rfl, hb1⟩
  have C2 := C1.trans (Chg.of_below (S := []) hb1) (by simp)
  have KA := KA.chg (Chg.of_below (S := []) hb1) (by simp)
  have KB := KB.chg (Chg.of_below (S := []) hb1) (by simp)
  have KR := KR.chg (Chg.of_below (S := []) hb1) (by simp)
  clear hb1 C1
  have k0 := KA.cell 0; have k1 := KA.cell 1; have k2 := KA.cell 2; have k3 := KA.cell 3; have k4 := KA.cell 4; simp at k0 k1 k2 k3 k4
  have j0 := KB.cell 0; have j1 := KB.cell 1; have j2 := KB.cell 2; have j3 := KB.cell 3; have j4 := KB.cell 4; simp at j0 j1 j2 j3 j4
  have lA := KA.lt; have lB := KB.lt
  go_wp2_with fail
  refine (cS.out w1 C2.bel).mono ?_
  rintro e w2 ⟨rfl, hb2⟩
  have C2 := C2.trans (Chg.of_below (S := []) hb2) (by simp)
  have KA := KA.chg (Chg.of_below (S := []) hb2) (by simp)
  have KB := KB.chg (Chg.of_below (S := []) hb2) (by simp)
  have KR := KR.chg (Chg.of_below (S := []) hb2) (by simp)
  clear hb2 k0 k1 k2 k3 k4 j0 j1 j2 j3 j4 lA lB
  go_wp2_with fail
  refine (cR.out w2).mono ?_
  rintro e w3 ⟨rfl, hb2⟩
  have C2 := C2.trans (Chg.of_below (S := []) hb2) (by simp)
  have KA := KA.chg (Chg.of_below (S := []) hb2) (by simp)
  have KB := KB.chg (Chg.of_below (S := []) hb2) (by simp)
  have KR := KR.chg (Chg.of_below (S := []) hb2) (by simp)
  clear hb2
  have HC2 := hide C2
  have HR := hide KR
  have k0 := KA.cell 0; have k1 := KA.cell 1; have k2 := KA.cell 2; have k3 := KA.cell 3; have k4 := KA.cell 4; simp at k0 k1 k2 k3 k4
  have j0 := KB.cell 0; have j1 := KB.cell 1; have j2 := KB.cell 2; have j3 := KB.cell 3; have j4 := KB.cell 4; simp at j0 j1 j2 j3 j4
  have r0 := KR.cell 0; have r1 := KR.cell 1; have r2 := KR.cell 2; have r3 := KR.cell 3; have r4 := KR.cell 4; simp at r0 r1 r2 r3 r4
  have z0 := KR.frozen 0; have z1 := KR.frozen 1; have z2 := KR.frozen 2; have z3 := KR.frozen 3; have z4 := KR.frozen 4
  have lA := KA.lt; have lB := KB.lt; have lR := KR.lt
  clear KA KB KR C2
  go_wp2_with fail
  refine name_postO fun W hW => ?_
  have C3 : Chg [w.heap.size + 2] w3 W := by subst hW; (repeat' (first | with_reducible exact Chg.refl _ _ | with_reducible refine Chg.alloc ?_ _ | with_reducible refine Chg.drew ?_ | with_reducible refine Chg.drewN ?_ _ | with_reducible refine Chg.set_ ?_ _ _ (by first | (simp; done) | (simp; omega) | omega)))
  have K2 : Blk W (w.heap.size + 2) 26 (vCells kz 0 sz none 0 0 none 0 0) := by subst hW; (repeat' (first | with_reducible exact HR.out | with_reducible exact Blk.new_ (by first | rfl | (simp; done) | (simp; omega)) | with_reducible refine Blk.alloc_ ?_ | with_reducible refine Blk.drew ?_ | with_reducible refine Blk.drewN ?_ _ | with_reducible refine Blk.far_ ?_ (by first | (simp; done) | (simp; omega) | omega) | with_reducible apply Blk.set_eq | rfl))
  clear k0 k1 k2 k3 k4 j0 j1 j2 j3 j4 r0 r1 r2 r3 r4 z0 z1 z2 z3 z4
  have k0 := K2.cell 0; have k1 := K2.cell 1; have k2 := K2.cell 2; have k3 := K2.cell 3; have k4 := K2.cell 4; simp at k0 k1 k2 k3 k4
  clear hW K2
  simp [bodyPost, results, Tryz.results47, go_sem, k0, k1, k2, k3, k4]
  exact ((HC2.out.mono (S' := [w.heap.size + 2]) (by simp)).trans C3 (by simp) |>.mono (S' := []) (by intro x hx; simp at hx; subst hx; exact .inr (by omega))).bel
end Go.Proofs.YtnepogddjinpoaaGreatDoor

namespace Go.Proofs.YtnepogddjinpoaaGreatDoor
open Go.RowKit
set_option linter.unusedVariables false
set_option linter.unusedSimpArgs false

set_option maxHeartbeats 1000000 in
set_option maxRecDepth 100000 in
theorem cTwo_index_list (i : Int) (s : ByteArray) (a : Option Addr) (n c : Nat) (a2 : Option Addr) (n2 c2 : Nat) (I : Int) (S : ByteArray) (A1 : Option Addr) (N Cp : Nat) (A3 : Option Addr) (N2 Cq : Nat) (w : World) (ez : Int) (T : Value → World → Prop) (hT : ∀ v W W', Chg [w.heap.size + 2] W W' → w.heap.size + 2 < W.heap.size → T v W → T v W')
    (hS : ∀ W, Below w.heap.size w W → Calls Tryz.prog 59 #[.agg (vCells 5 i s a n c a2 n2 c2), .int .i64 I] W fun e w' => (∃ kz iz sz az nz cz bz mz dz, e = .returned (.tuple #[.agg (vCells kz iz sz az nz cz bz mz dz), .int .i64 ez]) ∧ T (.agg (vCells kz iz sz az nz cz bz mz dz)) w') ∧ Below W.heap.size W w') :
    Calls Tryz.prog 47 #[.string ⟨#[105, 110, 100, 101, 120]⟩, .agg (vCells 5 i s a n c a2 n2 c2), .agg (vCells 3 I S A1 N Cp A3 N2 Cq)] w fun e w' => ∃ v', e = .returned (.tuple #[v', .int .i64 ez]) ∧ T v' w' ∧ Below w.heap.size w w' := by
  have e_eq : ((⟨#[105, 110, 100, 101, 120]⟩ : ByteArray) == ⟨#[101, 113]⟩) = false := by decide +kernel
  have e_lt : ((⟨#[105, 110, 100, 101, 120]⟩ : ByteArray) == ⟨#[108, 116]⟩) = false := by decide +kernel
  have e_and : ((⟨#[105, 110, 100, 101, 120]⟩ : ByteArray) == ⟨#[97, 110, 100]⟩) = false := by decide +kernel
  have e_or : ((⟨#[105, 110, 100, 101, 120]⟩ : ByteArray) == ⟨#[111, 114]⟩) = false := by decide +kernel
  have e_default : ((⟨#[105, 110, 100, 101, 120]⟩ : ByteArray) == ⟨#[100, 101, 102, 97, 117, 108, 116]⟩) = false := by decide +kernel
  have cS := hide hS
  have HT := hide hT
  clear hS hT
  have cT := hide (fun W => cValTruth 5 i s a n c a2 n2 c2 W)
  obtain ⟨q, hq⟩ : ∃ q, truthC 5 i s n = q := ⟨_, rfl⟩
  rw [hq] at cT
  clear hq
  go_enter Tryz.func47, Tryz.ntmps47
  go_wp2_with fail
  refine name_world fun W hW => ?_
  have C1 : Chg [] w W := by subst hW; (repeat' (first | with_reducible exact Chg.refl _ _ | with_reducible refine Chg.alloc ?_ _ | with_reducible refine Chg.drew ?_ | with_reducible refine Chg.drewN ?_ _ | with_reducible refine Chg.set_ ?_ _ _ (by first | (simp; done) | (simp; omega) | omega)))
  have KA : Blk W w.heap.size 26 (vCells 5 i s a n c a2 n2 c2) := by subst hW; (repeat' (first | with_reducible exact Blk.new_ (by first | rfl | (simp; done) | (simp; omega)) | with_reducible refine Blk.alloc_ ?_ | with_reducible refine Blk.drew ?_ | with_reducible refine Blk.drewN ?_ _ | with_reducible refine Blk.far_ ?_ (by first | (simp; done) | (simp; omega) | omega) | with_reducible apply Blk.set_eq | rfl))
  have KB : Blk W (w.heap.size + 1) 26 (vCells 3 I S A1 N Cp A3 N2 Cq) := by subst hW; (repeat' (first | with_reducible exact Blk.new_ (by first | rfl | (simp; done) | (simp; omega)) | with_reducible refine Blk.alloc_ ?_ | with_reducible refine Blk.drew ?_ | with_reducible refine Blk.drewN ?_ _ | with_reducible refine Blk.far_ ?_ (by first | (simp; done) | (simp; omega) | omega) | with_reducible apply Blk.set_eq | rfl))
  have KR : Blk W (w.heap.size + 2) 26 (vCells 0 0 ⟨#[]⟩ none 0 0 none 0 0) := by subst hW; (repeat' (first | with_reducible exact Blk.new_ (by first | rfl | (simp; done) | (simp; omega)) | with_reducible refine Blk.alloc_ ?_ | with_reducible refine Blk.drew ?_ | with_reducible refine Blk.drewN ?_ _ | with_reducible refine Blk.far_ ?_ (by first | (simp; done) | (simp; omega) | omega) | with_reducible apply Blk.set_eq | rfl))
  clear hW
  refine (cT.out W).mono ?_
  rintro e w1 ⟨rfl, hb1⟩
  have C2 := C1.trans (Chg.of_below (S := []) hb1) (by simp)
  have KA := KA.chg (Chg.of_below (S := []) hb1) (by simp)
  have KB := KB.chg (Chg.of_below (S := []) hb1) (by simp)
  have KR := KR.chg (Chg.of_below (S := []) hb1) (by simp)
  clear hb1 C1
  have k0 := KA.cell 0; have k1 := KA.cell 1; have k2 := KA.cell 2; have k3 := KA.cell 3; have k4 := KA.cell 4; simp at k0 k1 k2 k3 k4
  have j0 := KB.cell 0; have j1 := KB.cell 1; have j2 := KB.cell 2; have j3 := KB.cell 3; have j4 := KB.cell 4; simp at j0 j1 j2 j3 j4
  have lA := KA.lt; have lB := KB.lt
  go_wp2_with fail
  refine (cS.out w1 C2.bel).mono ?_
  rintro e w2 ⟨⟨kz, iz, sz, az, nz, cz, bz, mz, dz, rfl, hTv⟩, hb2⟩
  have HTV := hide hTv
  clear hTv
  have C2 := C2.trans (Chg.of_below (S := []) hb2) (by simp)
  have KA := KA.chg (Chg.of_below (S := []) hb2) (by simp)
  have KB := KB.chg (Chg.of_below (S := []) hb2) (by simp)
  have KR := KR.chg (Chg.of_below (S := []) hb2) (by simp)
  clear hb2 k0 k1 k2 k3 k4 j0 j1 j2 j3 j4 lA lB
  have HC2 := hide C2
  have HR := hide KR
  have k0 := KA.cell 0; have k1 := KA.cell 1; have k2 := KA.cell 2; have k3 := KA.cell 3; have k4 := KA.cell 4; simp at k0 k1 k2 k3 k4
  have j0 := KB.cell 0; have j1 := KB.cell 1; have j2 := KB.cell 2; have j3 := KB.cell 3; have j4 := KB.cell 4; simp at j0 j1 j2 j3 j4
  have r0 := KR.cell 0; have r1 := KR.cell 1; have r2 := KR.cell 2; have r3 := KR.cell 3; have r4 := KR.cell 4; simp at r0 r1 r2 r3 r4
  have z0 := KR.frozen 0; have z1 := KR.frozen 1; have z2 := KR.frozen 2; have z3 := KR.frozen 3; have z4 := KR.frozen 4
  have lA := KA.lt; have lB := KB.lt; have lR := KR.lt
  clear KA KB KR C2
  go_wp2_with fail
  refine name_postO fun W hW => ?_
  have C3 : Chg [w.heap.size + 2] w2 W := by subst hW; (repeat' (first | with_reducible exact Chg.refl _ _ | with_reducible refine Chg.alloc ?_ _ | with_reducible refine Chg.drew ?_ | with_reducible refine Chg.drewN ?_ _ | with_reducible refine Chg.set_ ?_ _ _ (by first | (simp; done) | (simp; omega) | omega)))
  have K2 : Blk W (w.heap.size + 2) 26 (vCells kz iz sz az nz cz bz mz dz) := by subst hW; (repeat' (first | with_reducible exact HR.out | with_reducible exact Blk.new_ (by first | rfl | (simp; done) | (simp; omega)) | with_reducible refine Blk.alloc_ ?_ | with_reducible refine Blk.drew ?_ | with_reducible refine Blk.drewN ?_ _ | with_reducible refine Blk.far_ ?_ (by first | (simp; done) | (simp; omega) | omega) | with_reducible apply Blk.set_eq | rfl))
  clear k0 k1 k2 k3 k4 j0 j1 j2 j3 j4 r0 r1 r2 r3 r4 z0 z1 z2 z3 z4
  have k0 := K2.cell 0; have k1 := K2.cell 1; have k2 := K2.cell 2; have k3 := K2.cell 3; have k4 := K2.cell 4; simp at k0 k1 k2 k3 k4
  clear hW K2
  have hTW := HT.out _ _ _ C3 lR HTV.out
  have hBW := ((HC2.out.mono (S' := [w.heap.size + 2]) (by simp)).trans C3 (by simp) |>.mono (S' := []) (by intro x hx; simp at hx; subst hx; exact .inr (by omega))).bel
  simp [bodyPost, results, Tryz.results47, go_sem, k0, k1, k2, k3, k4]
  exact ⟨hTW, hBW⟩
set_option maxHeartbeats 1000000 in
set_option maxRecDepth 100000 in
theorem cTwo_index_record (i : Int) (s : ByteArray) (a : Option Addr) (n c : Nat) (a2 : Option Addr) (n2 c2 : Nat) (I : Int) (S : ByteArray) (A1 : Option Addr) (N Cp : Nat) (A3 : Option Addr) (N2 Cq : Nat) (w : World) (ez : Int) (T : Value → World → Prop) (hT : ∀ v W W', Chg [w.heap.size + 2] W W' → w.heap.size + 2 < W.heap.size → T v W → T v W')
    (hS : ∀ W, Below w.heap.size w W → Calls Tryz.prog 39 #[.agg (vCells 6 i s a n c a2 n2 c2), .string S] W fun e w' => (∃ kz iz sz az nz cz bz mz dz, e = .returned (.tuple #[.agg (vCells kz iz sz az nz cz bz mz dz), .int .i64 ez]) ∧ T (.agg (vCells kz iz sz az nz cz bz mz dz)) w') ∧ Below W.heap.size W w') :
    Calls Tryz.prog 47 #[.string ⟨#[105, 110, 100, 101, 120]⟩, .agg (vCells 6 i s a n c a2 n2 c2), .agg (vCells 4 I S A1 N Cp A3 N2 Cq)] w fun e w' => ∃ v', e = .returned (.tuple #[v', .int .i64 ez]) ∧ T v' w' ∧ Below w.heap.size w w' := by
  have e_eq : ((⟨#[105, 110, 100, 101, 120]⟩ : ByteArray) == ⟨#[101, 113]⟩) = false := by decide +kernel
  have e_lt : ((⟨#[105, 110, 100, 101, 120]⟩ : ByteArray) == ⟨#[108, 116]⟩) = false := by decide +kernel
  have e_and : ((⟨#[105, 110, 100, 101, 120]⟩ : ByteArray) == ⟨#[97, 110, 100]⟩) = false := by decide +kernel
  have e_or : ((⟨#[105, 110, 100, 101, 120]⟩ : ByteArray) == ⟨#[111, 114]⟩) = false := by decide +kernel
  have e_default : ((⟨#[105, 110, 100, 101, 120]⟩ : ByteArray) == ⟨#[100, 101, 102, 97, 117, 108, 116]⟩) = false := by decide +kernel
  have cS := hide hS
  have HT := hide hT
  clear hS hT
  have cT := hide (fun W => cValTruth 6 i s a n c a2 n2 c2 W)
  obtain ⟨q, hq⟩ : ∃ q, truthC 6 i s n = q := ⟨_, rfl⟩
  rw [hq] at cT
  clear hq
  go_enter Tryz.func47, Tryz.ntmps47
  go_wp2_with fail
  refine name_world fun W hW => ?_
  have C1 : Chg [] w W := by subst hW; (repeat' (first | with_reducible exact Chg.refl _ _ | with_reducible refine Chg.alloc ?_ _ | with_reducible refine Chg.drew ?_ | with_reducible refine Chg.drewN ?_ _ | with_reducible refine Chg.set_ ?_ _ _ (by first | (simp; done) | (simp; omega) | omega)))
  have KA : Blk W w.heap.size 26 (vCells 6 i s a n c a2 n2 c2) := by subst hW; (repeat' (first | with_reducible exact Blk.new_ (by first | rfl | (simp; done) | (simp; omega)) | with_reducible refine Blk.alloc_ ?_ | with_reducible refine Blk.drew ?_ | with_reducible refine Blk.drewN ?_ _ | with_reducible refine Blk.far_ ?_ (by first | (simp; done) | (simp; omega) | omega) | with_reducible apply Blk.set_eq | rfl))
  have KB : Blk W (w.heap.size + 1) 26 (vCells 4 I S A1 N Cp A3 N2 Cq) := by subst hW; (repeat' (first | with_reducible exact Blk.new_ (by first | rfl | (simp; done) | (simp; omega)) | with_reducible refine Blk.alloc_ ?_ | with_reducible refine Blk.drew ?_ | with_reducible refine Blk.drewN ?_ _ | with_reducible refine Blk.far_ ?_ (by first | (simp; done) | (simp; omega) | omega) | with_reducible apply Blk.set_eq | rfl))
  have KR : Blk W (w.heap.size + 2) 26 (vCells 0 0 ⟨#[]⟩ none 0 0 none 0 0) := by subst hW; (repeat' (first | with_reducible exact Blk.new_ (by first | rfl | (simp; done) | (simp; omega)) | with_reducible refine Blk.alloc_ ?_ | with_reducible refine Blk.drew ?_ | with_reducible refine Blk.drewN ?_ _ | with_reducible refine Blk.far_ ?_ (by first | (simp; done) | (simp; omega) | omega) | with_reducible apply Blk.set_eq | rfl))
  clear hW
  refine (cT.out W).mono ?_
  rintro e w1 ⟨rfl, hb1⟩
  have C2 := C1.trans (Chg.of_below (S := []) hb1) (by simp)
  have KA := KA.chg (Chg.of_below (S := []) hb1) (by simp)
  have KB := KB.chg (Chg.of_below (S := []) hb1) (by simp)
  have KR := KR.chg (Chg.of_below (S := []) hb1) (by simp)
  clear hb1 C1
  have k0 := KA.cell 0; have k1 := KA.cell 1; have k2 := KA.cell 2; have k3 := KA.cell 3; have k4 := KA.cell 4; simp at k0 k1 k2 k3 k4
  have j0 := KB.cell 0; have j1 := KB.cell 1; have j2 := KB.cell 2; have j3 := KB.cell 3; have j4 := KB.cell 4; simp at j0 j1 j2 j3 j4
  have lA := KA.lt; have lB := KB.lt
  go_wp2_with fail
  refine (cS.out w1 C2.bel).mono ?_
  rintro e w2 ⟨⟨kz, iz, sz, az, nz, cz, bz, mz, dz, rfl, hTv⟩, hb2⟩
  have HTV := hide hTv
  clear hTv
  have C2 := C2.trans (Chg.of_below (S := []) hb2) (by simp)
  have KA := KA.chg (Chg.of_below (S := []) hb2) (by simp)
  have KB := KB.chg (Chg.of_below (S := []) hb2) (by simp)
  have KR := KR.chg (Chg.of_below (S := []) hb2) (by simp)
  clear hb2 k0 k1 k2 k3 k4 j0 j1 j2 j3 j4 lA lB
  have HC2 := hide C2
  have HR := hide KR
  have k0 := KA.cell 0; have k1 := KA.cell 1; have k2 := KA.cell 2; have k3 := KA.cell 3; have k4 := KA.cell 4; simp at k0 k1 k2 k3 k4
  have j0 := KB.cell 0; have j1 := KB.cell 1; have j2 := KB.cell 2; have j3 := KB.cell 3; have j4 := KB.cell 4; simp at j0 j1 j2 j3 j4
  have r0 := KR.cell 0; have r1 := KR.cell 1; have r2 := KR.cell 2; have r3 := KR.cell 3; have r4 := KR.cell 4; simp at r0 r1 r2 r3 r4
  have z0 := KR.frozen 0; have z1 := KR.frozen 1; have z2 := KR.frozen 2; have z3 := KR.frozen 3; have z4 := KR.frozen 4
  have lA := KA.lt; have lB := KB.lt; have lR := KR.lt
  clear KA KB KR C2
  go_wp2_with fail
  refine name_postO fun W hW => ?_
  have C3 : Chg [w.heap.size + 2] w2 W := by subst hW; (repeat' (first | with_reducible exact Chg.refl _ _ | with_reducible refine Chg.alloc ?_ _ | with_reducible refine Chg.drew ?_ | with_reducible refine Chg.drewN ?_ _ | with_reducible refine Chg.set_ ?_ _ _ (by first | (simp; done) | (simp; omega) | omega)))
  have K2 : Blk W (w.heap.size + 2) 26 (vCells kz iz sz az nz cz bz mz dz) := by subst hW; (repeat' (first | with_reducible exact HR.out | with_reducible exact Blk.new_ (by first | rfl | (simp; done) | (simp; omega)) | with_reducible refine Blk.alloc_ ?_ | with_reducible refine Blk.drew ?_ | with_reducible refine Blk.drewN ?_ _ | with_reducible refine Blk.far_ ?_ (by first | (simp; done) | (simp; omega) | omega) | with_reducible apply Blk.set_eq | rfl))
  clear k0 k1 k2 k3 k4 j0 j1 j2 j3 j4 r0 r1 r2 r3 r4 z0 z1 z2 z3 z4
  have k0 := K2.cell 0; have k1 := K2.cell 1; have k2 := K2.cell 2; have k3 := K2.cell 3; have k4 := K2.cell 4; simp at k0 k1 k2 k3 k4
  clear hW K2
  have hTW := HT.out _ _ _ C3 lR HTV.out
  have hBW := ((HC2.out.mono (S' := [w.heap.size + 2]) (by simp)).trans C3 (by simp) |>.mono (S' := []) (by intro x hx; simp at hx; subst hx; exact .inr (by omega))).bel
  simp [bodyPost, results, Tryz.results47, go_sem, k0, k1, k2, k3, k4]
  exact ⟨hTW, hBW⟩
end Go.Proofs.YtnepogddjinpoaaGreatDoor

namespace Go.Proofs.YtnepogddjinpoaaGreatDoor
open Go.RowKit
set_option linter.unusedVariables false
set_option linter.unusedSimpArgs false

/-- The blocks below one. -/
def lowN (N : Nat) : World → Nat → Prop := fun _ b => b < N
theorem lasts_N (N : Nat) : ∀ w w' b, Below w.heap.size w w' → b < w.heap.size → lowN N w b → lowN N w' b := fun _ _ _ _ _ h => h
theorem isV_low {U : World → Nat → Prop} {w : World} {n N : Nat} {v : Value} {d : VT n} (h : IsV U w n v d) (hN : w.heap.size ≤ N) : IsV (lowN N) w n v d :=
  IsV.on ⟨Nat.le_refl _, fun b hb _ => ⟨rfl, Nat.lt_of_lt_of_le hb hN⟩⟩ n v d h
theorem isV_any {N n : Nat} {w : World} {v : Value} {d : VT n} (h : IsV (lowN N) w n v d) : IsV anyB w n v d :=
  IsV.on ⟨Nat.le_refl _, fun b _ _ => ⟨rfl, trivial⟩⟩ n v d h
theorem isV_chg {S : List Nat} {w w' : World} {N n : Nat} {v : Value} {d : VT n} (h : IsV (lowN N) w n v d) (hc : Chg S w w') (hS : ∀ x ∈ S, N ≤ x) : IsV (lowN N) w' n v d :=
  IsV.on ⟨hc.size, fun b hb (hu : b < N) => ⟨hc.block b hb (fun hm => by have := hS b hm; omega), hu⟩⟩ n v d h
theorem isV_bel {w w' : World} {N n : Nat} {v : Value} {d : VT n} (h : IsV (lowN N) w n v d) (hb : Below w.heap.size w w') : IsV (lowN N) w' n v d :=
  IsV.on (Stays.of_below hb fun b h1 h2 => h2) n v d h
theorem flat_is (U : World → Nat → Prop) (w : World) (n : Nat) (k i : Int) (s : List UInt8) : IsV U w (n + 1) (vFlat k i ⟨s.toArray⟩) (⟨k, i, s, [], []⟩ : VN (VT n)) :=
  ⟨none, 0, none, 0, rfl, by intro j x hx; simp at hx, by intro j x hx; simp at hx⟩
theorem tells_up {U : World → Nat → Prop} {w : World} {n : Nat} {r : Option (VT n) × Int} {v : Value} (h : TellsV U w n r.1 v) : TellsV U w (n + 1) (upD r).1 v := by
  obtain ⟨o, e⟩ := r
  cases o with
  | none => exact h
  | some x => exact lift_isV _ _ _ h
theorem tells_shape {U : World → Nat → Prop} {w : World} {n : Nat} {r : Option (VT n)} {v : Value} (h : TellsV U w n r v) : ∃ kz iz sz az nz cz bz mz dz, v = .agg (vCells kz iz sz az nz cz bz mz dz) := by
  cases r with
  | none => exact ⟨_, _, _, _, _, _, _, _, _, h⟩
  | some x =>
    obtain ⟨e, rfl⟩ := IsV.shape h
    exact ⟨_, _, _, _, _, _, _, _, _, rfl⟩
theorem tells_chg {S : List Nat} {w w' : World} {N n : Nat} {r : Option (VT n)} {v : Value} (h : TellsV (lowN N) w n r v) (hc : Chg S w w') (hS : ∀ x ∈ S, N ≤ x) : TellsV (lowN N) w' n r v := by
  cases r with
  | none => exact h
  | some x => exact isV_chg h hc hS
/-- What a function of the page's tells. -/
def TellsR (N n : Nat) (w : World) (r : ResD n) (e : Ending) (w' : World) : Prop := ∃ v', e = .returned (.tuple #[v', .int .i64 r.2]) ∧ TellsV (lowN N) w' (n + 1) r.1 v' ∧ Below w.heap.size w w'
theorem tells_flat {N n : Nat} {w : World} {k i : Int} {s : List UInt8} {e : Ending} {w' : World} (h : e = .returned (.tuple #[vFlat k i ⟨s.toArray⟩, .int .i64 0]) ∧ Below w.heap.size w w') : TellsR N n w (some (⟨k, i, s, [], []⟩ : VD n), 0) e w' :=
  ⟨_, h.1, flat_is _ _ _ _ _ _, h.2⟩
theorem tells_err {N n : Nat} {w : World} {f : Int} {e : Ending} {w' : World} (h : e = .returned (.tuple #[vFlat 0 0 ⟨#[]⟩, .int .i64 f]) ∧ Below w.heap.size w w') : TellsR N n w (none, f) e w' :=
  ⟨_, h.1, rfl, h.2⟩
theorem tells_made {N n : Nat} {w : World} {s : List UInt8} {e : Ending} {w' : World} (h : e = .returned (.tuple #[madeV ⟨s.toArray⟩, .int .i64 (madeE ⟨s.toArray⟩)]) ∧ Below w.heap.size w w') : TellsR N n w (madeD s) e w' := by
  have hz : (⟨s.toArray⟩ : ByteArray).size = s.length := mkSize s
  unfold madeV madeE at h
  rw [hz] at h
  unfold madeD
  split
  · rename_i h1
    rw [if_pos h1, if_pos h1] at h
    exact tells_err h
  · rename_i h1
    rw [if_neg h1, if_neg h1] at h
    exact tells_flat h
theorem prints_le {n : Nat} (l : List (VT n)) (sep : List UInt8) (hm : sumBy (massV n) l ≤ 16777216) (hs : sep.length ≤ 1048576) (hn : ∀ x ∈ l, NumV n x) : (sepFrom sep 0 (l.map (printV n))).length ≤ 1000000000000000000 := by
  have h1 := sepFrom_len sep (l.map (printV n)) 0
  have h2 : sumBy (fun p : List UInt8 => p.length) (l.map (printV n)) ≤ 25 * sumBy (massV n) l := by
    clear h1 hm hs
    induction l with
    | nil => simp [sumBy]
    | cons x l ih =>
      have := ih (fun y hy => hn y (by simp [hy]))
      have := print_len n x (hn x (by simp))
      simp only [List.map_cons, sumBy]
      omega
  have h3 := sumBy_len (massV n) (massV_pos n) l
  rw [List.length_map] at h1
  have h4 : l.length * sep.length ≤ 16777216 * 1048576 := Nat.mul_le_mul (by omega) hs
  omega
set_option maxRecDepth 100000 in
theorem cTwo_any (n N : Nat) (name : List UInt8) (hn : name ∈ [[101, 113], [108, 116], [97, 110, 100], [111, 114], [106, 111, 105, 110], [100, 101, 102, 97, 117, 108, 116], [105, 110, 100, 101, 120]]) (va vb : Value) (a b : VD n) (w : World) (hN : N ≤ w.heap.size) (ha : IsV (lowN N) w (n + 1) va a) (hb : IsV (lowN N) w (n + 1) vb b) (ga : GoodD a) (gb : GoodD b) :
    Calls Tryz.prog 47 #[.string ⟨name.toArray⟩, va, vb] w fun e w' => TellsR N n w (twoR name a b) e w' := by
  have HA := hide ha; have HB := hide hb
  obtain ⟨p, c, p2, c2, rfl, hSa, hLa⟩ := ha.parts
  obtain ⟨P, C, P2, C2, rfl, hSb, hLb⟩ := hb.parts
  have hsa : (⟨a.s.toArray⟩ : ByteArray).toList = a.s := by rw [ByteArray.toList_eq]
  simp only [List.mem_cons, List.mem_nil_iff, or_false] at hn
  rcases hn with rfl | rfl | rfl | rfl | rfl | rfl | rfl
  · refine (cTwo_eq_cells a.k a.i ⟨a.s.toArray⟩ p a.l.length c p2 a.ks.length c2 b.k b.i ⟨b.s.toArray⟩ P b.l.length C P2 b.ks.length C2 w (eqV (n + 1) a b) (fun W hW => same_any (n + 1) anyB anyB (fun _ _ _ _ _ _ => trivial) (fun _ _ _ _ _ _ => trivial) _ _ a b W (isV_any (isV_bel HA.out hW)) (isV_any (isV_bel HB.out hW)) (small_of_mass _ _ ga.1))).mono ?_
    intro e w' h
    exact tells_flat (s := []) h
  · by_cases h3 : a.k = 3
    · by_cases h4 : b.k = 3
      · rw [h3, h4]
        refine (cTwo_lt_num a.i ⟨a.s.toArray⟩ p a.l.length c p2 a.ks.length c2 b.i ⟨b.s.toArray⟩ P b.l.length C P2 b.ks.length C2 w).mono ?_
        intro e w' h
        rw [show twoR [108, 116] a b = (some (truthD (decide (a.i < b.i))), 0) by simp [twoR, h3, h4]]
        exact tells_flat (s := []) h
      · rw [h3]
        refine (cTwo_lt_odd3 a.i ⟨a.s.toArray⟩ p a.l.length c p2 a.ks.length c2 b.k b.i ⟨b.s.toArray⟩ P b.l.length C P2 b.ks.length C2 w h4).mono ?_
        intro e w' h
        rw [show twoR [108, 116] a b = (none, 13) by simp [twoR, h3, h4]]
        exact tells_err h
    · by_cases h4 : a.k = 4
      · by_cases h5 : b.k = 4
        · rw [h4, h5]
          refine (cTwo_lt_text a.i ⟨a.s.toArray⟩ p a.l.length c p2 a.ks.length c2 b.i ⟨b.s.toArray⟩ P b.l.length C P2 b.ks.length C2 w).mono ?_
          intro e w' h
          rw [show twoR [108, 116] a b = (some (truthD (Op.bytesLess a.s b.s)), 0) by simp [twoR, h4, h5]]
          rw [ByteArray.toList_eq, ByteArray.toList_eq] at h
          exact tells_flat (s := []) h
        · rw [h4]
          refine (cTwo_lt_odd4 a.i ⟨a.s.toArray⟩ p a.l.length c p2 a.ks.length c2 b.k b.i ⟨b.s.toArray⟩ P b.l.length C P2 b.ks.length C2 w h5).mono ?_
          intro e w' h
          rw [show twoR [108, 116] a b = (none, 13) by simp [twoR, h4, h5]]
          exact tells_err h
      · refine (cTwo_lt_odd a.k a.i ⟨a.s.toArray⟩ p a.l.length c p2 a.ks.length c2 b.k b.i ⟨b.s.toArray⟩ P b.l.length C P2 b.ks.length C2 w h3 h4).mono ?_
        intro e w' h
        rw [show twoR [108, 116] a b = (none, 13) by simp [twoR, h3, h4]]
        exact tells_err h
  · refine (cTwo_and a.k a.i ⟨a.s.toArray⟩ p a.l.length c p2 a.ks.length c2 b.k b.i ⟨b.s.toArray⟩ P b.l.length C P2 b.ks.length C2 w (isTrue a) rfl).mono ?_
    intro e w' h
    rw [show twoR [97, 110, 100] a b = (some (if isTrue a then b else a), 0) by simp [twoR]]
    cases hq : isTrue a with
    | true => rw [hq] at h; exact ⟨_, h.1, isV_bel HB.out h.2, h.2⟩
    | false => rw [hq] at h; exact ⟨_, h.1, isV_bel HA.out h.2, h.2⟩
  · refine (cTwo_or a.k a.i ⟨a.s.toArray⟩ p a.l.length c p2 a.ks.length c2 b.k b.i ⟨b.s.toArray⟩ P b.l.length C P2 b.ks.length C2 w (isTrue a) rfl).mono ?_
    intro e w' h
    rw [show twoR [111, 114] a b = (some (if isTrue a then a else b), 0) by simp [twoR]]
    cases hq : isTrue a with
    | true => rw [hq] at h; exact ⟨_, h.1, isV_bel HA.out h.2, h.2⟩
    | false => rw [hq] at h; exact ⟨_, h.1, isV_bel HB.out h.2, h.2⟩
  · by_cases h5 : a.k = 5
    · by_cases h4 : b.k = 4
      · rw [h5, h4]
        have hlm : sumBy (massV n) a.l ≤ 1048576 := by have h1 := ga.1; rw [massV_succ] at h1; omega
        refine (cTwo_join_cells a.i ⟨a.s.toArray⟩ p a.l.length c p2 a.ks.length c2 b.i ⟨b.s.toArray⟩ P b.l.length C P2 b.ks.length C2 w ⟨(sepFrom b.s 0 (a.l.map (printV n))).toArray⟩ (fun W hW => ?_)).mono ?_
        · have hLW : ValsAt anyB W (IsV anyB W n) p a.l := hLa.on (U' := anyB) ⟨hW.size, fun x hx _ => ⟨hW.block x hx, trivial⟩⟩ (fun v x h => isV_any (isV_bel h hW))
          exact cPrints n anyB (fun _ _ _ _ _ _ => trivial) p a.l c b.s W hLW (by have := (good_len ga).2; omega) (prints_le a.l b.s (by omega) (by have := (good_len gb).1; omega) ga.2.2)
            (fun v x W' hx hv => cPrint_any n anyB (fun _ _ _ _ _ _ => trivial) v x W' hv (by have := sumBy_mem (massV n) a.l x hx; omega) (ga.2.2 x hx))
        · intro e w' h
          rw [show twoR [106, 111, 105, 110] a b = madeD (sepFrom b.s 0 (a.l.map (printV n))) by simp [twoR, h5, h4]]
          exact tells_made h
      · rw [h5]
        refine (cTwo_join_odd5 a.i ⟨a.s.toArray⟩ p a.l.length c p2 a.ks.length c2 b.k b.i ⟨b.s.toArray⟩ P b.l.length C P2 b.ks.length C2 w h4).mono ?_
        intro e w' h
        rw [show twoR [106, 111, 105, 110] a b = (none, 13) by simp [twoR, h5, h4]]
        exact tells_err h
    · refine (cTwo_join_odd a.k a.i ⟨a.s.toArray⟩ p a.l.length c p2 a.ks.length c2 b.k b.i ⟨b.s.toArray⟩ P b.l.length C P2 b.ks.length C2 w h5).mono ?_
      intro e w' h
      rw [show twoR [106, 111, 105, 110] a b = (none, 13) by simp [twoR, h5]]
      exact tells_err h
  · refine (cTwo_default a.k a.i ⟨a.s.toArray⟩ p a.l.length c p2 a.ks.length c2 b.k b.i ⟨b.s.toArray⟩ P b.l.length C P2 b.ks.length C2 w (isTrue b) rfl).mono ?_
    intro e w' h
    rw [show twoR [100, 101, 102, 97, 117, 108, 116] a b = (some (if isTrue b then b else a), 0) by simp [twoR]]
    cases hq : isTrue b with
    | true => rw [hq] at h; exact ⟨_, h.1, isV_bel HB.out h.2, h.2⟩
    | false => rw [hq] at h; exact ⟨_, h.1, isV_bel HA.out h.2, h.2⟩
  · by_cases h5 : a.k = 5
    · by_cases h3 : b.k = 3
      · have HA2 := HA.out
        rw [h5] at HA2
        rw [h5, h3]
        refine (cTwo_index_list a.i ⟨a.s.toArray⟩ p a.l.length c p2 a.ks.length c2 b.i ⟨b.s.toArray⟩ P b.l.length C P2 b.ks.length C2 w (indexR a b.i).2 (fun v w' => TellsV (lowN N) w' n (indexR a b.i).1 v) (fun v W W' hc _ ht => tells_chg ht hc (by intro x hx; simp at hx; omega)) (fun W hW => ?_)).mono ?_
        · have hi := refIndex_any n (lowN N) (lasts_N N) _ a b.i gb.2.1.1 gb.2.1.2 W (isV_bel HA.out hW) (small_of_mass _ _ ga.1)
          rw [h5] at hi
          refine hi.mono ?_
          rintro e w' ⟨v', rfl, ht, hb⟩
          obtain ⟨kz, iz, sz, az, nz, cz, bz, mz, dz, rfl⟩ := tells_shape ht
          exact ⟨⟨kz, iz, sz, az, nz, cz, bz, mz, dz, rfl, ht⟩, hb⟩
        · rintro e w' ⟨v', rfl, ht, hb⟩
          rw [show twoR [105, 110, 100, 101, 120] a b = upD (indexR a b.i) by simp [twoR, h5, h3]]
          exact ⟨v', rfl, tells_up ht, hb⟩
      · rw [h5]
        refine (cTwo_index_odd5 a.i ⟨a.s.toArray⟩ p a.l.length c p2 a.ks.length c2 b.k b.i ⟨b.s.toArray⟩ P b.l.length C P2 b.ks.length C2 w h3).mono ?_
        intro e w' h
        rw [show twoR [105, 110, 100, 101, 120] a b = (none, 13) by simp [twoR, h5, h3]]
        exact tells_err h
    · by_cases h6 : a.k = 6
      · by_cases h4 : b.k = 4
        · rw [h6, h4]
          refine (cTwo_index_record a.i ⟨a.s.toArray⟩ p a.l.length c p2 a.ks.length c2 b.i ⟨b.s.toArray⟩ P b.l.length C P2 b.ks.length C2 w (fieldR a b.s).2 (fun v w' => TellsV (lowN N) w' n (fieldR a b.s).1 v) (fun v W W' hc _ ht => tells_chg ht hc (by intro x hx; simp at hx; omega)) (fun W hW => ?_)).mono ?_
          · have hi := refField_any n (lowN N) (lasts_N N) _ a b.s W (isV_bel HA.out hW) (small_of_mass _ _ ga.1)
            rw [h6] at hi
            refine hi.mono ?_
            rintro e w' ⟨v', rfl, ht, hb⟩
            obtain ⟨kz, iz, sz, az, nz, cz, bz, mz, dz, rfl⟩ := tells_shape ht
            exact ⟨⟨kz, iz, sz, az, nz, cz, bz, mz, dz, rfl, ht⟩, hb⟩
          · rintro e w' ⟨v', rfl, ht, hb⟩
            rw [show twoR [105, 110, 100, 101, 120] a b = upD (fieldR a b.s) by simp [twoR, h6, h4]]
            exact ⟨v', rfl, tells_up ht, hb⟩
        · rw [h6]
          refine (cTwo_index_odd6 a.i ⟨a.s.toArray⟩ p a.l.length c p2 a.ks.length c2 b.k b.i ⟨b.s.toArray⟩ P b.l.length C P2 b.ks.length C2 w h4).mono ?_
          intro e w' h
          rw [show twoR [105, 110, 100, 101, 120] a b = (none, 13) by simp [twoR, h6, h4]]
          exact tells_err h
      · refine (cTwo_index_odd a.k a.i ⟨a.s.toArray⟩ p a.l.length c p2 a.ks.length c2 b.k b.i ⟨b.s.toArray⟩ P b.l.length C P2 b.ks.length C2 w h5 h6).mono ?_
        intro e w' h
        rw [show twoR [105, 110, 100, 101, 120] a b = (none, 13) by simp [twoR, h5, h6]]
        exact tells_err h
end Go.Proofs.YtnepogddjinpoaaGreatDoor

namespace Go.Proofs.YtnepogddjinpoaaGreatDoor
open Go.RowKit
set_option linter.unusedVariables false

structure RowL (n N base : Nat) (w : World) (v : Value) (es : List VF) (xs : List (VT n)) : Prop where
  own : w.ownsRow base 26 5 v es.length (es.flatMap VF.cells)
  len : es.length = xs.length
  each : ∀ (r : Nat) (e : VF) (x : VT n), es[r]? = some e → xs[r]? = some x → IsV (lowN N) w n e.val x
theorem RowL.nil (n N base : Nat) (w : World) : RowL n N base w (.slice none 0 0) [] [] := ⟨World.ownsRow_nil _ _ _ _, rfl, fun r e x h => by simp at h⟩
theorem RowL.slice {n N base : Nat} {w : World} {v : Value} {es : List VF} {xs : List (VT n)} (h : RowL n N base w v es xs) : ∃ A c, v = .slice A xs.length c := by
  rcases h.own.2 with ⟨rfl, h1⟩ | ⟨g, cap, cur, rfl, _⟩
  · exact ⟨none, 0, by rw [← h.len, h1]⟩
  · exact ⟨_, _, by rw [← h.len]⟩
theorem RowL.chg {n N base : Nat} {S : List Nat} {w w' : World} {v : Value} {es : List VF} {xs : List (VT n)} (h : RowL n N base w v es xs) (c : Chg S w w') (hN : ∀ x ∈ S, N ≤ x) (hS : ∀ x ∈ S, x < base) : RowL n N base w' v es xs :=
  ⟨own_chg h.own c (fun k hk hm => by have := (h.own.lt k hk).1; have := hS k hm; omega), h.len, fun r e x he hx => isV_chg (h.each r e x he hx) c hN⟩
theorem RowL.below {n N base : Nat} {w w' : World} {v : Value} {es : List VF} {xs : List (VT n)} (h : RowL n N base w v es xs) (hb : Below w.heap.size w w') : RowL n N base w' v es xs :=
  h.chg (S := []) (Chg.of_below hb) (fun x hx => by cases hx) (fun x hx => by cases hx)
/-- One element more: in world w it is a value; wA is where it is appended. -/
theorem RowL.snoc {n N base g cap : Nat} {w wA w4 : World} {v : Value} {es : List VF} {xs : List (VT n)} {e : VF} {x : VT n} (h : RowL n N base w v es xs) (hV : IsV (lowN N) w n e.val x)
    (hNb : N ≤ base) (hbw : base ≤ w.heap.size) (hA : Below w.heap.size w wA) (hg : wA.grownBy w4 v.ownBlock)
    (hown : w4.ownsRow base 26 5 (.slice (some ⟨g, 0, none⟩) (es.length + 1) cap) (es.length + 1) (es.flatMap VF.cells ++ e.cells)) :
    RowL n N base w4 (.slice (some ⟨g, 0, none⟩) (es.length + 1) cap) (es ++ [e]) (xs ++ [x]) := by
  have hc : Chg v.ownBlock.toList w w4 := ((Chg.refl v.ownBlock.toList w).below hA).grown hg (fun k hk => .inl (by rw [hk]; simp))
  have hS : ∀ k ∈ v.ownBlock.toList, N ≤ k := by
    intro k hk
    have := (h.own.lt k (by simpa using hk)).1
    omega
  refine ⟨by simpa using hown, by simp [h.len], ?_⟩
  intro r e' x' he hx
  rcases Nat.lt_or_ge r es.length with hr | hr
  · rw [List.getElem?_append_left hr] at he
    rw [List.getElem?_append_left (by rw [← h.len]; exact hr)] at hx
    exact isV_chg (h.each r e' x' he hx) hc hS
  · obtain rfl : r = es.length := by
      have := (List.getElem?_eq_some_iff.1 he).1
      simp at this; omega
    rw [List.getElem?_append_right (by omega)] at he
    rw [List.getElem?_append_right (by rw [h.len]; omega), ← h.len] at hx
    simp at he hx
    subst he; subst hx
    exact isV_chg hV hc hS
/-- The list as a whole. -/
theorem RowL.vals {n N base : Nat} {w : World} {v : Value} {es : List VF} {xs : List (VT n)} {A : Option Addr} {m c : Nat} (h : RowL n N base w v es xs) (hv : v = .slice A m c) : ValsAt anyB w (IsV (lowN N) w n) A xs := by
  intro r x hx
  have hr := (List.getElem?_eq_some_iff.1 hx).1
  obtain ⟨e, he⟩ : ∃ e, es[r]? = some e := ⟨_, List.getElem?_eq_getElem (by rw [h.len]; exact hr)⟩
  obtain ⟨g, cap, cur, hv2, hbg, hg⟩ : ∃ g cap cur, v = .slice (some ⟨g, 0, none⟩) es.length cap ∧ base ≤ g ∧ w.heap[g]? = some (.cells cur 26) := by
    rcases h.own.2 with ⟨_, h1⟩ | ⟨g, cap, cur, hv2, hb, hg, _⟩
    · rw [h.len] at h1; omega
    · exact ⟨g, cap, cur, hv2, hb, hg⟩
  rw [hv] at hv2
  injection hv2 with hA _ _
  have hlt : g < w.heap.size := (Array.getElem?_eq_some_iff.1 hg).1
  have hc : ∀ t u, e.cells[t]? = some u → w.cell? ⟨g, 0 + r * 5 + t, none⟩ = some u := by
    intro t u hu
    have ht : t < 5 := by have := (List.getElem?_eq_some_iff.1 hu).1; rw [e.cells_len] at this; exact this
    have := h.own.cells (g := g) (by rw [hv, hA]; rfl) (r * 5 + t) u ((flat5_get es r e t he ht).trans hu)
    rw [zaddV] at this
    rw [Nat.zero_add]; exact this
  exact ⟨g, 0, hA, hlt, trivial, e.k, e.i, e.s, e.a, e.n, e.c, e.a2, e.n2, e.c2, ⟨hc 0 _ rfl, hc 1 _ rfl, hc 2 _ rfl, hc 3 _ rfl, hc 4 _ rfl⟩, h.each r e x he hx⟩
end Go.Proofs.YtnepogddjinpoaaGreatDoor
