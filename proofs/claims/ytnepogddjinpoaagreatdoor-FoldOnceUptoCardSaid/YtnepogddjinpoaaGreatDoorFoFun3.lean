/-
  The program's functions on flat values: one, two.
-/
import Derived.Test.YtnepogddjinpoaaGreatDoorP5
import Derived.Deep.RegionWith
namespace Go.Proofs.YtnepogddjinpoaaGreatDoor
open Go.RowKit
set_option linter.unusedVariables false
set_option linter.unusedSimpArgs false

theorem name_codeF {P : Program} {c : Code} {Q : Exit → Act → World → Prop} {a : Act} {w : World} (h : ∀ W, w = W → c.wp P Q a W) : c.wp P Q a w := h w rfl
set_option maxHeartbeats 2000000 in
set_option maxRecDepth 100000 in
theorem ogOneLen (k i : Int) (s : ByteArray) (a : Option Addr) (c : Nat) (a2 : Option Addr) (c2 : Nat) (m : Int) (hq : lenC k s 0 = (m, 0)) (w : World) :
    Calls Tryz.prog 160 #[.string ⟨#[108, 101, 110]⟩, .agg (vCells k i s a 0 c a2 0 c2)] w (ToldF w (3) (m) ⟨#[]⟩ (0)) := by
  have cL := hide (fun W => ogLen k i s a 0 c a2 0 c2 W)
  rw [hq] at cL
  clear hq
  have cI := hide (fun W => ogInt m W)
  go_enter Tryz.func160, Tryz.ntmps160
  go_wp2_with fail
  refine name_world fun W hW => ?_
  have C1 : Chg [] w W := by subst hW; (repeat' (first | with_reducible exact Chg.refl _ _ | with_reducible refine Chg.alloc ?_ _ | with_reducible refine Chg.drew ?_ | with_reducible refine Chg.drewN ?_ _ | with_reducible refine Chg.set_ ?_ _ _ (by first | (simp; done) | (simp; omega) | omega)))
  have KA : Blk W (w.heap.size) 26 (vCells k i s a 0 c a2 0 c2) := by subst hW; (repeat' (first | with_reducible exact Blk.new_ (by first | rfl | (simp; done) | (simp; omega)) | with_reducible refine Blk.alloc_ ?_ | with_reducible refine Blk.drew ?_ | with_reducible refine Blk.drewN ?_ _ | with_reducible refine Blk.far_ ?_ (by first | (simp; done) | (simp; omega) | omega) | with_reducible apply Blk.set_eq | rfl))
  have KR : Blk W (w.heap.size + 1) 26 (vCells 0 0 ⟨#[]⟩ none 0 0 none 0 0) := by subst hW; (repeat' (first | with_reducible exact Blk.new_ (by first | rfl | (simp; done) | (simp; omega)) | with_reducible refine Blk.alloc_ ?_ | with_reducible refine Blk.drew ?_ | with_reducible refine Blk.drewN ?_ _ | with_reducible refine Blk.far_ ?_ (by first | (simp; done) | (simp; omega) | omega) | with_reducible apply Blk.set_eq | rfl))
  clear hW
  refine (cL.out W).mono ?_
  rintro e w2 ⟨rfl, hb2⟩
  have C1 := C1.trans (Chg.of_below (S := []) hb2) (by simp)
  have KA := KA.chg (Chg.of_below (S := []) hb2) (by simp)
  have KR := KR.chg (Chg.of_below (S := []) hb2) (by simp)
  clear hb2
  go_wp2_with fail
  refine (cI.out w2).mono ?_
  rintro e w3 ⟨rfl, hb3⟩
  have C1 := C1.trans (Chg.of_below (S := []) hb3) (by simp)
  have KR := KR.chg (Chg.of_below (S := []) hb3) (by simp)
  clear hb3
  have HC := hide C1
  have HR := hide KR
  have kR0 := KR.cell 0; have kR1 := KR.cell 1; have kR2 := KR.cell 2; have kR3 := KR.cell 3; have kR4 := KR.cell 4; simp at kR0 kR1 kR2 kR3 kR4
  have z0 := KR.frozen 0; have z1 := KR.frozen 1; have z2 := KR.frozen 2; have z3 := KR.frozen 3; have z4 := KR.frozen 4
  have lR := KR.lt
  clear KR C1
  go_wp2_with fail
  refine name_postO fun W hW => ?_
  have C3 : Chg [w.heap.size + 1] w3 W := by subst hW; (repeat' (first | with_reducible exact Chg.refl _ _ | with_reducible refine Chg.alloc ?_ _ | with_reducible refine Chg.drew ?_ | with_reducible refine Chg.drewN ?_ _ | with_reducible refine Chg.set_ ?_ _ _ (by first | (simp; done) | (simp; omega) | omega)))
  have K2 : Blk W (w.heap.size + 1) 26 (vCells 3 m ⟨#[]⟩ none 0 0 none 0 0) := by subst hW; (repeat' (first | with_reducible exact HR.out | with_reducible exact Blk.new_ (by first | rfl | (simp; done) | (simp; omega)) | with_reducible refine Blk.alloc_ ?_ | with_reducible refine Blk.drew ?_ | with_reducible refine Blk.drewN ?_ _ | with_reducible refine Blk.far_ ?_ (by first | (simp; done) | (simp; omega) | omega) | with_reducible apply Blk.set_eq | rfl))
  clear kR0 kR1 kR2 kR3 kR4 z0 z1 z2 z3 z4
  have k0 := K2.cell 0; have k1 := K2.cell 1; have k2 := K2.cell 2; have k3 := K2.cell 3; have k4 := K2.cell 4; simp at k0 k1 k2 k3 k4
  clear hW K2
  have hbel : Below w.heap.size w W := ((HC.out.mono (S' := [w.heap.size + 1]) (by simp)).trans C3 (by simp) |>.mono (S' := []) (by intro x hx; simp at hx; subst hx; exact .inr (by omega))).bel
  (try simp only [Exit.inBlock, Exit.then])
  refine bodyPost_ret (v := .tuple #[.agg (vCells 3 m ⟨#[]⟩ none 0 0 none 0 0), .int .i64 0]) ?_ rfl ⟨_, _, _, _, rfl, hbel⟩
  simp [results, Tryz.results160, go_sem, k0, k1, k2, k3, k4]
set_option maxHeartbeats 2000000 in
set_option maxRecDepth 100000 in
theorem ogOneLenOdd (k i : Int) (s : ByteArray) (a : Option Addr) (c : Nat) (a2 : Option Addr) (c2 : Nat) (m E : Int) (hq : lenC k s 0 = (m, E)) (hE : ¬ E = 0) (w : World) :
    Calls Tryz.prog 160 #[.string ⟨#[108, 101, 110]⟩, .agg (vCells k i s a 0 c a2 0 c2)] w (ToldF w (0) (0) ⟨#[]⟩ (E)) := by
  have cL := hide (fun W => ogLen k i s a 0 c a2 0 c2 W)
  rw [hq] at cL
  clear hq
  have hE2 : (E == 0) = false := by simpa using hE
  have hE3 : (E != 0) = true := by simpa using hE
  go_enter Tryz.func160, Tryz.ntmps160
  go_wp2_with fail
  refine name_world fun W hW => ?_
  have C1 : Chg [] w W := by subst hW; (repeat' (first | with_reducible exact Chg.refl _ _ | with_reducible refine Chg.alloc ?_ _ | with_reducible refine Chg.drew ?_ | with_reducible refine Chg.drewN ?_ _ | with_reducible refine Chg.set_ ?_ _ _ (by first | (simp; done) | (simp; omega) | omega)))
  have KA : Blk W (w.heap.size) 26 (vCells k i s a 0 c a2 0 c2) := by subst hW; (repeat' (first | with_reducible exact Blk.new_ (by first | rfl | (simp; done) | (simp; omega)) | with_reducible refine Blk.alloc_ ?_ | with_reducible refine Blk.drew ?_ | with_reducible refine Blk.drewN ?_ _ | with_reducible refine Blk.far_ ?_ (by first | (simp; done) | (simp; omega) | omega) | with_reducible apply Blk.set_eq | rfl))
  have KR : Blk W (w.heap.size + 1) 26 (vCells 0 0 ⟨#[]⟩ none 0 0 none 0 0) := by subst hW; (repeat' (first | with_reducible exact Blk.new_ (by first | rfl | (simp; done) | (simp; omega)) | with_reducible refine Blk.alloc_ ?_ | with_reducible refine Blk.drew ?_ | with_reducible refine Blk.drewN ?_ _ | with_reducible refine Blk.far_ ?_ (by first | (simp; done) | (simp; omega) | omega) | with_reducible apply Blk.set_eq | rfl))
  clear hW
  refine (cL.out W).mono ?_
  rintro e w2 ⟨rfl, hb2⟩
  have C1 := C1.trans (Chg.of_below (S := []) hb2) (by simp)
  have KA := KA.chg (Chg.of_below (S := []) hb2) (by simp)
  have KR := KR.chg (Chg.of_below (S := []) hb2) (by simp)
  clear hb2
  have HC := hide C1
  have HR := hide KR
  have kR0 := KR.cell 0; have kR1 := KR.cell 1; have kR2 := KR.cell 2; have kR3 := KR.cell 3; have kR4 := KR.cell 4; simp at kR0 kR1 kR2 kR3 kR4
  have z0 := KR.frozen 0; have z1 := KR.frozen 1; have z2 := KR.frozen 2; have z3 := KR.frozen 3; have z4 := KR.frozen 4
  have lR := KR.lt
  clear KR C1
  go_wp2_with fail
  refine name_postO fun W hW => ?_
  have C3 : Chg [w.heap.size + 1] w2 W := by subst hW; (repeat' (first | with_reducible exact Chg.refl _ _ | with_reducible refine Chg.alloc ?_ _ | with_reducible refine Chg.drew ?_ | with_reducible refine Chg.drewN ?_ _ | with_reducible refine Chg.set_ ?_ _ _ (by first | (simp; done) | (simp; omega) | omega)))
  have K2 : Blk W (w.heap.size + 1) 26 (vCells 0 0 ⟨#[]⟩ none 0 0 none 0 0) := by subst hW; (repeat' (first | with_reducible exact HR.out | with_reducible exact Blk.new_ (by first | rfl | (simp; done) | (simp; omega)) | with_reducible refine Blk.alloc_ ?_ | with_reducible refine Blk.drew ?_ | with_reducible refine Blk.drewN ?_ _ | with_reducible refine Blk.far_ ?_ (by first | (simp; done) | (simp; omega) | omega) | with_reducible apply Blk.set_eq | rfl))
  clear kR0 kR1 kR2 kR3 kR4 z0 z1 z2 z3 z4
  have k0 := K2.cell 0; have k1 := K2.cell 1; have k2 := K2.cell 2; have k3 := K2.cell 3; have k4 := K2.cell 4; simp at k0 k1 k2 k3 k4
  clear hW K2
  have hbel : Below w.heap.size w W := ((HC.out.mono (S' := [w.heap.size + 1]) (by simp)).trans C3 (by simp) |>.mono (S' := []) (by intro x hx; simp at hx; subst hx; exact .inr (by omega))).bel
  (try simp only [Exit.inBlock, Exit.then])
  refine bodyPost_ret (v := .tuple #[.agg (vCells 0 0 ⟨#[]⟩ none 0 0 none 0 0), .int .i64 E]) ?_ rfl ⟨_, _, _, _, rfl, hbel⟩
  simp [results, Tryz.results160, go_sem, k0, k1, k2, k3, k4]
set_option maxHeartbeats 2000000 in
set_option maxRecDepth 100000 in
theorem ogOneNot (k i : Int) (s : ByteArray) (a : Option Addr) (c : Nat) (a2 : Option Addr) (c2 : Nat) (w : World) :
    Calls Tryz.prog 160 #[.string ⟨#[110, 111, 116]⟩, .agg (vCells k i s a 0 c a2 0 c2)] w (ToldF w (if (!truthC k i s 0) then 2 else 1) (0) ⟨#[]⟩ (0)) := by
  have en0 : ((⟨#[110, 111, 116]⟩ : ByteArray) == ⟨#[108, 101, 110]⟩) = false := by decide +kernel
  have cU := hide (fun W => ogValTruth k i s a 0 c a2 0 c2 W)
  obtain ⟨q, hq⟩ : ∃ q, truthC k i s 0 = q := ⟨_, rfl⟩
  rw [hq] at cU ⊢
  clear hq
  have cR := hide (fun W => ogTruth (!q) W)
  obtain ⟨kk, hkk⟩ : ∃ kk : Int, (if (!q) then (2 : Int) else 1) = kk := ⟨_, rfl⟩
  rw [hkk]
  rw [hkk] at cR
  clear hkk
  go_enter Tryz.func160, Tryz.ntmps160
  go_wp2_with fail
  refine name_world fun W hW => ?_
  have C1 : Chg [] w W := by subst hW; (repeat' (first | with_reducible exact Chg.refl _ _ | with_reducible refine Chg.alloc ?_ _ | with_reducible refine Chg.drew ?_ | with_reducible refine Chg.drewN ?_ _ | with_reducible refine Chg.set_ ?_ _ _ (by first | (simp; done) | (simp; omega) | omega)))
  have KA : Blk W (w.heap.size) 26 (vCells k i s a 0 c a2 0 c2) := by subst hW; (repeat' (first | with_reducible exact Blk.new_ (by first | rfl | (simp; done) | (simp; omega)) | with_reducible refine Blk.alloc_ ?_ | with_reducible refine Blk.drew ?_ | with_reducible refine Blk.drewN ?_ _ | with_reducible refine Blk.far_ ?_ (by first | (simp; done) | (simp; omega) | omega) | with_reducible apply Blk.set_eq | rfl))
  have KR : Blk W (w.heap.size + 1) 26 (vCells 0 0 ⟨#[]⟩ none 0 0 none 0 0) := by subst hW; (repeat' (first | with_reducible exact Blk.new_ (by first | rfl | (simp; done) | (simp; omega)) | with_reducible refine Blk.alloc_ ?_ | with_reducible refine Blk.drew ?_ | with_reducible refine Blk.drewN ?_ _ | with_reducible refine Blk.far_ ?_ (by first | (simp; done) | (simp; omega) | omega) | with_reducible apply Blk.set_eq | rfl))
  clear hW
  refine (cU.out W).mono ?_
  rintro e w2 ⟨rfl, hb2⟩
  have C1 := C1.trans (Chg.of_below (S := []) hb2) (by simp)
  have KR := KR.chg (Chg.of_below (S := []) hb2) (by simp)
  clear hb2
  go_wp2_with fail
  refine (cR.out w2).mono ?_
  rintro e w3 ⟨rfl, hb3⟩
  have C1 := C1.trans (Chg.of_below (S := []) hb3) (by simp)
  have KR := KR.chg (Chg.of_below (S := []) hb3) (by simp)
  clear hb3
  have HC := hide C1
  have HR := hide KR
  have kR0 := KR.cell 0; have kR1 := KR.cell 1; have kR2 := KR.cell 2; have kR3 := KR.cell 3; have kR4 := KR.cell 4; simp at kR0 kR1 kR2 kR3 kR4
  have z0 := KR.frozen 0; have z1 := KR.frozen 1; have z2 := KR.frozen 2; have z3 := KR.frozen 3; have z4 := KR.frozen 4
  have lR := KR.lt
  clear KR C1
  go_wp2_with fail
  refine name_postO fun W hW => ?_
  have C3 : Chg [w.heap.size + 1] w3 W := by subst hW; (repeat' (first | with_reducible exact Chg.refl _ _ | with_reducible refine Chg.alloc ?_ _ | with_reducible refine Chg.drew ?_ | with_reducible refine Chg.drewN ?_ _ | with_reducible refine Chg.set_ ?_ _ _ (by first | (simp; done) | (simp; omega) | omega)))
  have K2 : Blk W (w.heap.size + 1) 26 (vCells kk 0 ⟨#[]⟩ none 0 0 none 0 0) := by subst hW; (repeat' (first | with_reducible exact HR.out | with_reducible exact Blk.new_ (by first | rfl | (simp; done) | (simp; omega)) | with_reducible refine Blk.alloc_ ?_ | with_reducible refine Blk.drew ?_ | with_reducible refine Blk.drewN ?_ _ | with_reducible refine Blk.far_ ?_ (by first | (simp; done) | (simp; omega) | omega) | with_reducible apply Blk.set_eq | rfl))
  clear kR0 kR1 kR2 kR3 kR4 z0 z1 z2 z3 z4
  have k0 := K2.cell 0; have k1 := K2.cell 1; have k2 := K2.cell 2; have k3 := K2.cell 3; have k4 := K2.cell 4; simp at k0 k1 k2 k3 k4
  clear hW K2
  have hbel : Below w.heap.size w W := ((HC.out.mono (S' := [w.heap.size + 1]) (by simp)).trans C3 (by simp) |>.mono (S' := []) (by intro x hx; simp at hx; subst hx; exact .inr (by omega))).bel
  (try simp only [Exit.inBlock, Exit.then])
  refine bodyPost_ret (v := .tuple #[.agg (vCells kk 0 ⟨#[]⟩ none 0 0 none 0 0), .int .i64 0]) ?_ rfl ⟨_, _, _, _, rfl, hbel⟩
  simp [results, Tryz.results160, go_sem, k0, k1, k2, k3, k4]
set_option maxHeartbeats 2000000 in
set_option maxRecDepth 100000 in
theorem ogOneUpper (k i : Int) (s : ByteArray) (a : Option Addr) (c : Nat) (a2 : Option Addr) (c2 : Nat) (x y E : Int) (z : ByteArray) (w : World) (hL : ∀ W, Below w.heap.size w W → Calls Tryz.prog 200 #[.agg (vCells k i s a 0 c a2 0 c2), .func (.func 201) #[] #[]] W (ToldF W x y z E)) :
    Calls Tryz.prog 160 #[.string ⟨#[117, 112, 112, 101, 114]⟩, .agg (vCells k i s a 0 c a2 0 c2)] w (ToldF w (x) (y) z (E)) := by
  have en0 : ((⟨#[117, 112, 112, 101, 114]⟩ : ByteArray) == ⟨#[108, 101, 110]⟩) = false := by decide +kernel
  have en1 : ((⟨#[117, 112, 112, 101, 114]⟩ : ByteArray) == ⟨#[110, 111, 116]⟩) = false := by decide +kernel
  have cL := hide hL
  clear hL
  go_enter Tryz.func160, Tryz.ntmps160
  go_wp2_with fail
  refine name_world fun W hW => ?_
  have C1 : Chg [] w W := by subst hW; (repeat' (first | with_reducible exact Chg.refl _ _ | with_reducible refine Chg.alloc ?_ _ | with_reducible refine Chg.drew ?_ | with_reducible refine Chg.drewN ?_ _ | with_reducible refine Chg.set_ ?_ _ _ (by first | (simp; done) | (simp; omega) | omega)))
  have KA : Blk W (w.heap.size) 26 (vCells k i s a 0 c a2 0 c2) := by subst hW; (repeat' (first | with_reducible exact Blk.new_ (by first | rfl | (simp; done) | (simp; omega)) | with_reducible refine Blk.alloc_ ?_ | with_reducible refine Blk.drew ?_ | with_reducible refine Blk.drewN ?_ _ | with_reducible refine Blk.far_ ?_ (by first | (simp; done) | (simp; omega) | omega) | with_reducible apply Blk.set_eq | rfl))
  have KR : Blk W (w.heap.size + 1) 26 (vCells 0 0 ⟨#[]⟩ none 0 0 none 0 0) := by subst hW; (repeat' (first | with_reducible exact Blk.new_ (by first | rfl | (simp; done) | (simp; omega)) | with_reducible refine Blk.alloc_ ?_ | with_reducible refine Blk.drew ?_ | with_reducible refine Blk.drewN ?_ _ | with_reducible refine Blk.far_ ?_ (by first | (simp; done) | (simp; omega) | omega) | with_reducible apply Blk.set_eq | rfl))
  clear hW
  refine (cL.out W C1.bel).mono ?_
  rintro e w2 ⟨xa, xc, xa2, xc2, rfl, hb2⟩
  have C1 := C1.trans (Chg.of_below (S := []) hb2) (by simp)
  have KR := KR.chg (Chg.of_below (S := []) hb2) (by simp)
  clear hb2
  have HC := hide C1
  have HR := hide KR
  have kR0 := KR.cell 0; have kR1 := KR.cell 1; have kR2 := KR.cell 2; have kR3 := KR.cell 3; have kR4 := KR.cell 4; simp at kR0 kR1 kR2 kR3 kR4
  have z0 := KR.frozen 0; have z1 := KR.frozen 1; have z2 := KR.frozen 2; have z3 := KR.frozen 3; have z4 := KR.frozen 4
  have lR := KR.lt
  clear KR C1
  go_wp2_with fail
  refine name_postO fun W hW => ?_
  have C3 : Chg [w.heap.size + 1] w2 W := by subst hW; (repeat' (first | with_reducible exact Chg.refl _ _ | with_reducible refine Chg.alloc ?_ _ | with_reducible refine Chg.drew ?_ | with_reducible refine Chg.drewN ?_ _ | with_reducible refine Chg.set_ ?_ _ _ (by first | (simp; done) | (simp; omega) | omega)))
  have K2 : Blk W (w.heap.size + 1) 26 (vCells x y z xa 0 xc xa2 0 xc2) := by subst hW; (repeat' (first | with_reducible exact HR.out | with_reducible exact Blk.new_ (by first | rfl | (simp; done) | (simp; omega)) | with_reducible refine Blk.alloc_ ?_ | with_reducible refine Blk.drew ?_ | with_reducible refine Blk.drewN ?_ _ | with_reducible refine Blk.far_ ?_ (by first | (simp; done) | (simp; omega) | omega) | with_reducible apply Blk.set_eq | rfl))
  clear kR0 kR1 kR2 kR3 kR4 z0 z1 z2 z3 z4
  have k0 := K2.cell 0; have k1 := K2.cell 1; have k2 := K2.cell 2; have k3 := K2.cell 3; have k4 := K2.cell 4; simp at k0 k1 k2 k3 k4
  clear hW K2
  have hbel : Below w.heap.size w W := ((HC.out.mono (S' := [w.heap.size + 1]) (by simp)).trans C3 (by simp) |>.mono (S' := []) (by intro x hx; simp at hx; subst hx; exact .inr (by omega))).bel
  (try simp only [Exit.inBlock, Exit.then])
  refine bodyPost_ret (v := .tuple #[.agg (vCells x y z xa 0 xc xa2 0 xc2), .int .i64 E]) ?_ rfl ⟨_, _, _, _, rfl, hbel⟩
  simp [results, Tryz.results160, go_sem, k0, k1, k2, k3, k4]
set_option maxHeartbeats 2000000 in
set_option maxRecDepth 100000 in
theorem ogOneLower (k i : Int) (s : ByteArray) (a : Option Addr) (c : Nat) (a2 : Option Addr) (c2 : Nat) (x y E : Int) (z : ByteArray) (w : World) (hL : ∀ W, Below w.heap.size w W → Calls Tryz.prog 200 #[.agg (vCells k i s a 0 c a2 0 c2), .func (.func 202) #[] #[]] W (ToldF W x y z E)) :
    Calls Tryz.prog 160 #[.string ⟨#[108, 111, 119, 101, 114]⟩, .agg (vCells k i s a 0 c a2 0 c2)] w (ToldF w (x) (y) z (E)) := by
  have en0 : ((⟨#[108, 111, 119, 101, 114]⟩ : ByteArray) == ⟨#[108, 101, 110]⟩) = false := by decide +kernel
  have en1 : ((⟨#[108, 111, 119, 101, 114]⟩ : ByteArray) == ⟨#[110, 111, 116]⟩) = false := by decide +kernel
  have en2 : ((⟨#[108, 111, 119, 101, 114]⟩ : ByteArray) == ⟨#[117, 112, 112, 101, 114]⟩) = false := by decide +kernel
  have cL := hide hL
  clear hL
  go_enter Tryz.func160, Tryz.ntmps160
  go_wp2_with fail
  refine name_world fun W hW => ?_
  have C1 : Chg [] w W := by subst hW; (repeat' (first | with_reducible exact Chg.refl _ _ | with_reducible refine Chg.alloc ?_ _ | with_reducible refine Chg.drew ?_ | with_reducible refine Chg.drewN ?_ _ | with_reducible refine Chg.set_ ?_ _ _ (by first | (simp; done) | (simp; omega) | omega)))
  have KA : Blk W (w.heap.size) 26 (vCells k i s a 0 c a2 0 c2) := by subst hW; (repeat' (first | with_reducible exact Blk.new_ (by first | rfl | (simp; done) | (simp; omega)) | with_reducible refine Blk.alloc_ ?_ | with_reducible refine Blk.drew ?_ | with_reducible refine Blk.drewN ?_ _ | with_reducible refine Blk.far_ ?_ (by first | (simp; done) | (simp; omega) | omega) | with_reducible apply Blk.set_eq | rfl))
  have KR : Blk W (w.heap.size + 1) 26 (vCells 0 0 ⟨#[]⟩ none 0 0 none 0 0) := by subst hW; (repeat' (first | with_reducible exact Blk.new_ (by first | rfl | (simp; done) | (simp; omega)) | with_reducible refine Blk.alloc_ ?_ | with_reducible refine Blk.drew ?_ | with_reducible refine Blk.drewN ?_ _ | with_reducible refine Blk.far_ ?_ (by first | (simp; done) | (simp; omega) | omega) | with_reducible apply Blk.set_eq | rfl))
  clear hW
  refine (cL.out W C1.bel).mono ?_
  rintro e w2 ⟨xa, xc, xa2, xc2, rfl, hb2⟩
  have C1 := C1.trans (Chg.of_below (S := []) hb2) (by simp)
  have KR := KR.chg (Chg.of_below (S := []) hb2) (by simp)
  clear hb2
  have HC := hide C1
  have HR := hide KR
  have kR0 := KR.cell 0; have kR1 := KR.cell 1; have kR2 := KR.cell 2; have kR3 := KR.cell 3; have kR4 := KR.cell 4; simp at kR0 kR1 kR2 kR3 kR4
  have z0 := KR.frozen 0; have z1 := KR.frozen 1; have z2 := KR.frozen 2; have z3 := KR.frozen 3; have z4 := KR.frozen 4
  have lR := KR.lt
  clear KR C1
  go_wp2_with fail
  refine name_postO fun W hW => ?_
  have C3 : Chg [w.heap.size + 1] w2 W := by subst hW; (repeat' (first | with_reducible exact Chg.refl _ _ | with_reducible refine Chg.alloc ?_ _ | with_reducible refine Chg.drew ?_ | with_reducible refine Chg.drewN ?_ _ | with_reducible refine Chg.set_ ?_ _ _ (by first | (simp; done) | (simp; omega) | omega)))
  have K2 : Blk W (w.heap.size + 1) 26 (vCells x y z xa 0 xc xa2 0 xc2) := by subst hW; (repeat' (first | with_reducible exact HR.out | with_reducible exact Blk.new_ (by first | rfl | (simp; done) | (simp; omega)) | with_reducible refine Blk.alloc_ ?_ | with_reducible refine Blk.drew ?_ | with_reducible refine Blk.drewN ?_ _ | with_reducible refine Blk.far_ ?_ (by first | (simp; done) | (simp; omega) | omega) | with_reducible apply Blk.set_eq | rfl))
  clear kR0 kR1 kR2 kR3 kR4 z0 z1 z2 z3 z4
  have k0 := K2.cell 0; have k1 := K2.cell 1; have k2 := K2.cell 2; have k3 := K2.cell 3; have k4 := K2.cell 4; simp at k0 k1 k2 k3 k4
  clear hW K2
  have hbel : Below w.heap.size w W := ((HC.out.mono (S' := [w.heap.size + 1]) (by simp)).trans C3 (by simp) |>.mono (S' := []) (by intro x hx; simp at hx; subst hx; exact .inr (by omega))).bel
  (try simp only [Exit.inBlock, Exit.then])
  refine bodyPost_ret (v := .tuple #[.agg (vCells x y z xa 0 xc xa2 0 xc2), .int .i64 E]) ?_ rfl ⟨_, _, _, _, rfl, hbel⟩
  simp [results, Tryz.results160, go_sem, k0, k1, k2, k3, k4]
set_option maxHeartbeats 2000000 in
set_option maxRecDepth 100000 in
theorem ogTwoEq (k i : Int) (s : ByteArray) (a : Option Addr) (c : Nat) (a2 : Option Addr) (c2 : Nat) (K I : Int) (S : ByteArray) (A1 : Option Addr) (Cp : Nat) (A3 : Option Addr) (Cq : Nat) (q : Bool) (w : World) (hS : ∀ W, Below w.heap.size w W → Calls Tryz.prog 203 #[.agg (vCells k i s a 0 c a2 0 c2), .agg (vCells K I S A1 0 Cp A3 0 Cq)] W fun e w' => e = .returned (.bool q) ∧ Below W.heap.size W w') :
    Calls Tryz.prog 161 #[.string ⟨#[101, 113]⟩, .agg (vCells k i s a 0 c a2 0 c2), .agg (vCells K I S A1 0 Cp A3 0 Cq)] w (ToldF w (if q then 2 else 1) (0) ⟨#[]⟩ (0)) := by
  have cS := hide hS
  have cR := hide (fun W => ogTruth q W)
  obtain ⟨kk, hkk⟩ : ∃ kk : Int, (if q then (2 : Int) else 1) = kk := ⟨_, rfl⟩
  rw [hkk]
  rw [hkk] at cR
  clear hkk hS
  go_enter Tryz.func161, Tryz.ntmps161
  go_wp2_with fail
  refine name_world fun W hW => ?_
  have C1 : Chg [] w W := by subst hW; (repeat' (first | with_reducible exact Chg.refl _ _ | with_reducible refine Chg.alloc ?_ _ | with_reducible refine Chg.drew ?_ | with_reducible refine Chg.drewN ?_ _ | with_reducible refine Chg.set_ ?_ _ _ (by first | (simp; done) | (simp; omega) | omega)))
  have KA : Blk W (w.heap.size) 26 (vCells k i s a 0 c a2 0 c2) := by subst hW; (repeat' (first | with_reducible exact Blk.new_ (by first | rfl | (simp; done) | (simp; omega)) | with_reducible refine Blk.alloc_ ?_ | with_reducible refine Blk.drew ?_ | with_reducible refine Blk.drewN ?_ _ | with_reducible refine Blk.far_ ?_ (by first | (simp; done) | (simp; omega) | omega) | with_reducible apply Blk.set_eq | rfl))
  have KB : Blk W (w.heap.size + 1) 26 (vCells K I S A1 0 Cp A3 0 Cq) := by subst hW; (repeat' (first | with_reducible exact Blk.new_ (by first | rfl | (simp; done) | (simp; omega)) | with_reducible refine Blk.alloc_ ?_ | with_reducible refine Blk.drew ?_ | with_reducible refine Blk.drewN ?_ _ | with_reducible refine Blk.far_ ?_ (by first | (simp; done) | (simp; omega) | omega) | with_reducible apply Blk.set_eq | rfl))
  have KR : Blk W (w.heap.size + 2) 26 (vCells 0 0 ⟨#[]⟩ none 0 0 none 0 0) := by subst hW; (repeat' (first | with_reducible exact Blk.new_ (by first | rfl | (simp; done) | (simp; omega)) | with_reducible refine Blk.alloc_ ?_ | with_reducible refine Blk.drew ?_ | with_reducible refine Blk.drewN ?_ _ | with_reducible refine Blk.far_ ?_ (by first | (simp; done) | (simp; omega) | omega) | with_reducible apply Blk.set_eq | rfl))
  clear hW
  refine (cS.out W C1.bel).mono ?_
  rintro e w2 ⟨rfl, hb2⟩
  have C1 := C1.trans (Chg.of_below (S := []) hb2) (by simp)
  have KR := KR.chg (Chg.of_below (S := []) hb2) (by simp)
  clear hb2
  go_wp2_with fail
  refine (cR.out w2).mono ?_
  rintro e w3 ⟨rfl, hb3⟩
  have C1 := C1.trans (Chg.of_below (S := []) hb3) (by simp)
  have KR := KR.chg (Chg.of_below (S := []) hb3) (by simp)
  clear hb3
  have HC := hide C1
  have HR := hide KR
  have kR0 := KR.cell 0; have kR1 := KR.cell 1; have kR2 := KR.cell 2; have kR3 := KR.cell 3; have kR4 := KR.cell 4; simp at kR0 kR1 kR2 kR3 kR4
  have z0 := KR.frozen 0; have z1 := KR.frozen 1; have z2 := KR.frozen 2; have z3 := KR.frozen 3; have z4 := KR.frozen 4
  have lR := KR.lt
  clear KR C1
  go_wp2_with fail
  refine name_postO fun W hW => ?_
  have C3 : Chg [w.heap.size + 2] w3 W := by subst hW; (repeat' (first | with_reducible exact Chg.refl _ _ | with_reducible refine Chg.alloc ?_ _ | with_reducible refine Chg.drew ?_ | with_reducible refine Chg.drewN ?_ _ | with_reducible refine Chg.set_ ?_ _ _ (by first | (simp; done) | (simp; omega) | omega)))
  have K2 : Blk W (w.heap.size + 2) 26 (vCells kk 0 ⟨#[]⟩ none 0 0 none 0 0) := by subst hW; (repeat' (first | with_reducible exact HR.out | with_reducible exact Blk.new_ (by first | rfl | (simp; done) | (simp; omega)) | with_reducible refine Blk.alloc_ ?_ | with_reducible refine Blk.drew ?_ | with_reducible refine Blk.drewN ?_ _ | with_reducible refine Blk.far_ ?_ (by first | (simp; done) | (simp; omega) | omega) | with_reducible apply Blk.set_eq | rfl))
  clear kR0 kR1 kR2 kR3 kR4 z0 z1 z2 z3 z4
  have k0 := K2.cell 0; have k1 := K2.cell 1; have k2 := K2.cell 2; have k3 := K2.cell 3; have k4 := K2.cell 4; simp at k0 k1 k2 k3 k4
  clear hW K2
  have hbel : Below w.heap.size w W := ((HC.out.mono (S' := [w.heap.size + 2]) (by simp)).trans C3 (by simp) |>.mono (S' := []) (by intro x hx; simp at hx; subst hx; exact .inr (by omega))).bel
  (try simp only [Exit.inBlock, Exit.then])
  refine bodyPost_ret (v := .tuple #[.agg (vCells kk 0 ⟨#[]⟩ none 0 0 none 0 0), .int .i64 0]) ?_ rfl ⟨_, _, _, _, rfl, hbel⟩
  simp [results, Tryz.results161, go_sem, k0, k1, k2, k3, k4]
set_option maxHeartbeats 2000000 in
set_option maxRecDepth 100000 in
theorem ogTwoLt (k i : Int) (s : ByteArray) (a : Option Addr) (c : Nat) (a2 : Option Addr) (c2 : Nat) (K I : Int) (S : ByteArray) (A1 : Option Addr) (Cp : Nat) (A3 : Option Addr) (Cq : Nat) (x y E : Int) (z : ByteArray) (w : World) (hL : ∀ W, Below w.heap.size w W → Calls Tryz.prog 204 #[.agg (vCells k i s a 0 c a2 0 c2), .agg (vCells K I S A1 0 Cp A3 0 Cq)] W (ToldF W x y z E)) :
    Calls Tryz.prog 161 #[.string ⟨#[108, 116]⟩, .agg (vCells k i s a 0 c a2 0 c2), .agg (vCells K I S A1 0 Cp A3 0 Cq)] w (ToldF w (x) (y) z (E)) := by
  have en0 : ((⟨#[108, 116]⟩ : ByteArray) == ⟨#[101, 113]⟩) = false := by decide +kernel
  have cL := hide hL
  clear hL
  go_enter Tryz.func161, Tryz.ntmps161
  go_wp2_with fail
  refine name_world fun W hW => ?_
  have C1 : Chg [] w W := by subst hW; (repeat' (first | with_reducible exact Chg.refl _ _ | with_reducible refine Chg.alloc ?_ _ | with_reducible refine Chg.drew ?_ | with_reducible refine Chg.drewN ?_ _ | with_reducible refine Chg.set_ ?_ _ _ (by first | (simp; done) | (simp; omega) | omega)))
  have KA : Blk W (w.heap.size) 26 (vCells k i s a 0 c a2 0 c2) := by subst hW; (repeat' (first | with_reducible exact Blk.new_ (by first | rfl | (simp; done) | (simp; omega)) | with_reducible refine Blk.alloc_ ?_ | with_reducible refine Blk.drew ?_ | with_reducible refine Blk.drewN ?_ _ | with_reducible refine Blk.far_ ?_ (by first | (simp; done) | (simp; omega) | omega) | with_reducible apply Blk.set_eq | rfl))
  have KB : Blk W (w.heap.size + 1) 26 (vCells K I S A1 0 Cp A3 0 Cq) := by subst hW; (repeat' (first | with_reducible exact Blk.new_ (by first | rfl | (simp; done) | (simp; omega)) | with_reducible refine Blk.alloc_ ?_ | with_reducible refine Blk.drew ?_ | with_reducible refine Blk.drewN ?_ _ | with_reducible refine Blk.far_ ?_ (by first | (simp; done) | (simp; omega) | omega) | with_reducible apply Blk.set_eq | rfl))
  have KR : Blk W (w.heap.size + 2) 26 (vCells 0 0 ⟨#[]⟩ none 0 0 none 0 0) := by subst hW; (repeat' (first | with_reducible exact Blk.new_ (by first | rfl | (simp; done) | (simp; omega)) | with_reducible refine Blk.alloc_ ?_ | with_reducible refine Blk.drew ?_ | with_reducible refine Blk.drewN ?_ _ | with_reducible refine Blk.far_ ?_ (by first | (simp; done) | (simp; omega) | omega) | with_reducible apply Blk.set_eq | rfl))
  clear hW
  refine (cL.out W C1.bel).mono ?_
  rintro e w2 ⟨xa, xc, xa2, xc2, rfl, hb2⟩
  have C1 := C1.trans (Chg.of_below (S := []) hb2) (by simp)
  have KR := KR.chg (Chg.of_below (S := []) hb2) (by simp)
  clear hb2
  have HC := hide C1
  have HR := hide KR
  have kR0 := KR.cell 0; have kR1 := KR.cell 1; have kR2 := KR.cell 2; have kR3 := KR.cell 3; have kR4 := KR.cell 4; simp at kR0 kR1 kR2 kR3 kR4
  have z0 := KR.frozen 0; have z1 := KR.frozen 1; have z2 := KR.frozen 2; have z3 := KR.frozen 3; have z4 := KR.frozen 4
  have lR := KR.lt
  clear KR C1
  go_wp2_with fail
  refine name_postO fun W hW => ?_
  have C3 : Chg [w.heap.size + 2] w2 W := by subst hW; (repeat' (first | with_reducible exact Chg.refl _ _ | with_reducible refine Chg.alloc ?_ _ | with_reducible refine Chg.drew ?_ | with_reducible refine Chg.drewN ?_ _ | with_reducible refine Chg.set_ ?_ _ _ (by first | (simp; done) | (simp; omega) | omega)))
  have K2 : Blk W (w.heap.size + 2) 26 (vCells x y z xa 0 xc xa2 0 xc2) := by subst hW; (repeat' (first | with_reducible exact HR.out | with_reducible exact Blk.new_ (by first | rfl | (simp; done) | (simp; omega)) | with_reducible refine Blk.alloc_ ?_ | with_reducible refine Blk.drew ?_ | with_reducible refine Blk.drewN ?_ _ | with_reducible refine Blk.far_ ?_ (by first | (simp; done) | (simp; omega) | omega) | with_reducible apply Blk.set_eq | rfl))
  clear kR0 kR1 kR2 kR3 kR4 z0 z1 z2 z3 z4
  have k0 := K2.cell 0; have k1 := K2.cell 1; have k2 := K2.cell 2; have k3 := K2.cell 3; have k4 := K2.cell 4; simp at k0 k1 k2 k3 k4
  clear hW K2
  have hbel : Below w.heap.size w W := ((HC.out.mono (S' := [w.heap.size + 2]) (by simp)).trans C3 (by simp) |>.mono (S' := []) (by intro x hx; simp at hx; subst hx; exact .inr (by omega))).bel
  (try simp only [Exit.inBlock, Exit.then])
  refine bodyPost_ret (v := .tuple #[.agg (vCells x y z xa 0 xc xa2 0 xc2), .int .i64 E]) ?_ rfl ⟨_, _, _, _, rfl, hbel⟩
  simp [results, Tryz.results161, go_sem, k0, k1, k2, k3, k4]
set_option maxHeartbeats 2000000 in
set_option maxRecDepth 100000 in
theorem ogTwoIndex (k i : Int) (s : ByteArray) (a : Option Addr) (c : Nat) (a2 : Option Addr) (c2 : Nat) (K I : Int) (S : ByteArray) (A1 : Option Addr) (Cp : Nat) (A3 : Option Addr) (Cq : Nat) (x y E : Int) (z : ByteArray) (w : World) (hL : ∀ W, Below w.heap.size w W → Calls Tryz.prog 206 #[.agg (vCells k i s a 0 c a2 0 c2), .agg (vCells K I S A1 0 Cp A3 0 Cq)] W (ToldF W x y z E)) :
    Calls Tryz.prog 161 #[.string ⟨#[105, 110, 100, 101, 120]⟩, .agg (vCells k i s a 0 c a2 0 c2), .agg (vCells K I S A1 0 Cp A3 0 Cq)] w (ToldF w (x) (y) z (E)) := by
  have en0 : ((⟨#[105, 110, 100, 101, 120]⟩ : ByteArray) == ⟨#[101, 113]⟩) = false := by decide +kernel
  have en1 : ((⟨#[105, 110, 100, 101, 120]⟩ : ByteArray) == ⟨#[108, 116]⟩) = false := by decide +kernel
  have en2 : ((⟨#[105, 110, 100, 101, 120]⟩ : ByteArray) == ⟨#[97, 110, 100]⟩) = false := by decide +kernel
  have en3 : ((⟨#[105, 110, 100, 101, 120]⟩ : ByteArray) == ⟨#[111, 114]⟩) = false := by decide +kernel
  have en4 : ((⟨#[105, 110, 100, 101, 120]⟩ : ByteArray) == ⟨#[100, 101, 102, 97, 117, 108, 116]⟩) = false := by decide +kernel
  have cL := hide hL
  clear hL
  go_enter Tryz.func161, Tryz.ntmps161
  go_wp2_with fail
  refine name_world fun W hW => ?_
  have C1 : Chg [] w W := by subst hW; (repeat' (first | with_reducible exact Chg.refl _ _ | with_reducible refine Chg.alloc ?_ _ | with_reducible refine Chg.drew ?_ | with_reducible refine Chg.drewN ?_ _ | with_reducible refine Chg.set_ ?_ _ _ (by first | (simp; done) | (simp; omega) | omega)))
  have KA : Blk W (w.heap.size) 26 (vCells k i s a 0 c a2 0 c2) := by subst hW; (repeat' (first | with_reducible exact Blk.new_ (by first | rfl | (simp; done) | (simp; omega)) | with_reducible refine Blk.alloc_ ?_ | with_reducible refine Blk.drew ?_ | with_reducible refine Blk.drewN ?_ _ | with_reducible refine Blk.far_ ?_ (by first | (simp; done) | (simp; omega) | omega) | with_reducible apply Blk.set_eq | rfl))
  have KB : Blk W (w.heap.size + 1) 26 (vCells K I S A1 0 Cp A3 0 Cq) := by subst hW; (repeat' (first | with_reducible exact Blk.new_ (by first | rfl | (simp; done) | (simp; omega)) | with_reducible refine Blk.alloc_ ?_ | with_reducible refine Blk.drew ?_ | with_reducible refine Blk.drewN ?_ _ | with_reducible refine Blk.far_ ?_ (by first | (simp; done) | (simp; omega) | omega) | with_reducible apply Blk.set_eq | rfl))
  have KR : Blk W (w.heap.size + 2) 26 (vCells 0 0 ⟨#[]⟩ none 0 0 none 0 0) := by subst hW; (repeat' (first | with_reducible exact Blk.new_ (by first | rfl | (simp; done) | (simp; omega)) | with_reducible refine Blk.alloc_ ?_ | with_reducible refine Blk.drew ?_ | with_reducible refine Blk.drewN ?_ _ | with_reducible refine Blk.far_ ?_ (by first | (simp; done) | (simp; omega) | omega) | with_reducible apply Blk.set_eq | rfl))
  clear hW
  refine (cL.out W C1.bel).mono ?_
  rintro e w2 ⟨xa, xc, xa2, xc2, rfl, hb2⟩
  have C1 := C1.trans (Chg.of_below (S := []) hb2) (by simp)
  have KR := KR.chg (Chg.of_below (S := []) hb2) (by simp)
  clear hb2
  have HC := hide C1
  have HR := hide KR
  have kR0 := KR.cell 0; have kR1 := KR.cell 1; have kR2 := KR.cell 2; have kR3 := KR.cell 3; have kR4 := KR.cell 4; simp at kR0 kR1 kR2 kR3 kR4
  have z0 := KR.frozen 0; have z1 := KR.frozen 1; have z2 := KR.frozen 2; have z3 := KR.frozen 3; have z4 := KR.frozen 4
  have lR := KR.lt
  clear KR C1
  go_wp2_with fail
  refine name_postO fun W hW => ?_
  have C3 : Chg [w.heap.size + 2] w2 W := by subst hW; (repeat' (first | with_reducible exact Chg.refl _ _ | with_reducible refine Chg.alloc ?_ _ | with_reducible refine Chg.drew ?_ | with_reducible refine Chg.drewN ?_ _ | with_reducible refine Chg.set_ ?_ _ _ (by first | (simp; done) | (simp; omega) | omega)))
  have K2 : Blk W (w.heap.size + 2) 26 (vCells x y z xa 0 xc xa2 0 xc2) := by subst hW; (repeat' (first | with_reducible exact HR.out | with_reducible exact Blk.new_ (by first | rfl | (simp; done) | (simp; omega)) | with_reducible refine Blk.alloc_ ?_ | with_reducible refine Blk.drew ?_ | with_reducible refine Blk.drewN ?_ _ | with_reducible refine Blk.far_ ?_ (by first | (simp; done) | (simp; omega) | omega) | with_reducible apply Blk.set_eq | rfl))
  clear kR0 kR1 kR2 kR3 kR4 z0 z1 z2 z3 z4
  have k0 := K2.cell 0; have k1 := K2.cell 1; have k2 := K2.cell 2; have k3 := K2.cell 3; have k4 := K2.cell 4; simp at k0 k1 k2 k3 k4
  clear hW K2
  have hbel : Below w.heap.size w W := ((HC.out.mono (S' := [w.heap.size + 2]) (by simp)).trans C3 (by simp) |>.mono (S' := []) (by intro x hx; simp at hx; subst hx; exact .inr (by omega))).bel
  (try simp only [Exit.inBlock, Exit.then])
  refine bodyPost_ret (v := .tuple #[.agg (vCells x y z xa 0 xc xa2 0 xc2), .int .i64 E]) ?_ rfl ⟨_, _, _, _, rfl, hbel⟩
  simp [results, Tryz.results161, go_sem, k0, k1, k2, k3, k4]
set_option maxHeartbeats 2000000 in
set_option maxRecDepth 100000 in
theorem ogTwoJoin (k i : Int) (s : ByteArray) (a : Option Addr) (c : Nat) (a2 : Option Addr) (c2 : Nat) (K I : Int) (S : ByteArray) (A1 : Option Addr) (Cp : Nat) (A3 : Option Addr) (Cq : Nat) (h5 : ¬ k = 5) (w : World) :
    Calls Tryz.prog 161 #[.string ⟨#[106, 111, 105, 110]⟩, .agg (vCells k i s a 0 c a2 0 c2), .agg (vCells K I S A1 0 Cp A3 0 Cq)] w (ToldF w (0) (0) ⟨#[]⟩ (13)) := by
  have en0 : ((⟨#[106, 111, 105, 110]⟩ : ByteArray) == ⟨#[101, 113]⟩) = false := by decide +kernel
  have en1 : ((⟨#[106, 111, 105, 110]⟩ : ByteArray) == ⟨#[108, 116]⟩) = false := by decide +kernel
  have en2 : ((⟨#[106, 111, 105, 110]⟩ : ByteArray) == ⟨#[97, 110, 100]⟩) = false := by decide +kernel
  have en3 : ((⟨#[106, 111, 105, 110]⟩ : ByteArray) == ⟨#[111, 114]⟩) = false := by decide +kernel
  have en4 : ((⟨#[106, 111, 105, 110]⟩ : ByteArray) == ⟨#[100, 101, 102, 97, 117, 108, 116]⟩) = false := by decide +kernel
  have en5 : ((⟨#[106, 111, 105, 110]⟩ : ByteArray) == ⟨#[105, 110, 100, 101, 120]⟩) = false := by decide +kernel
  have e0 : (k == 5) = false := by simpa using h5
  have e1 : (k != 5) = true := by simpa using h5
  go_enter Tryz.func161, Tryz.ntmps161
  go_wp2_with fail
  refine name_postO fun W hW => ?_
  have C3 : Chg [] w W := by subst hW; (repeat' (first | with_reducible exact Chg.refl _ _ | with_reducible refine Chg.alloc ?_ _ | with_reducible refine Chg.drew ?_ | with_reducible refine Chg.drewN ?_ _ | with_reducible refine Chg.set_ ?_ _ _ (by first | (simp; done) | (simp; omega) | omega)))
  have K2 : Blk W (w.heap.size + 2) 26 (vCells 0 0 ⟨#[]⟩ none 0 0 none 0 0) := by subst hW; (repeat' (first | with_reducible exact Blk.new_ (by first | rfl | (simp; done) | (simp; omega)) | with_reducible refine Blk.alloc_ ?_ | with_reducible refine Blk.drew ?_ | with_reducible refine Blk.drewN ?_ _ | with_reducible refine Blk.far_ ?_ (by first | (simp; done) | (simp; omega) | omega) | with_reducible apply Blk.set_eq | rfl))
  have k0 := K2.cell 0; have k1 := K2.cell 1; have k2 := K2.cell 2; have k3 := K2.cell 3; have k4 := K2.cell 4; simp at k0 k1 k2 k3 k4
  clear hW K2
  have hbel : Below w.heap.size w W := C3.bel
  (try simp only [Exit.inBlock, Exit.then])
  refine bodyPost_ret (v := .tuple #[.agg (vCells 0 0 ⟨#[]⟩ none 0 0 none 0 0), .int .i64 13]) ?_ rfl ⟨_, _, _, _, rfl, hbel⟩
  simp [results, Tryz.results161, go_sem, k0, k1, k2, k3, k4]
set_option maxHeartbeats 2000000 in
set_option maxRecDepth 100000 in
theorem ogTwoAnd (k i : Int) (s : ByteArray) (a : Option Addr) (c : Nat) (a2 : Option Addr) (c2 : Nat) (K I : Int) (S : ByteArray) (A1 : Option Addr) (Cp : Nat) (A3 : Option Addr) (Cq : Nat) (w : World) :
    Calls Tryz.prog 161 #[.string ⟨#[97, 110, 100]⟩, .agg (vCells k i s a 0 c a2 0 c2), .agg (vCells K I S A1 0 Cp A3 0 Cq)] w (ToldF w (if (!truthC k i s 0) then k else K) (if (!truthC k i s 0) then i else I) (if (!truthC k i s 0) then s else S) (0)) := by
  have en0 : ((⟨#[97, 110, 100]⟩ : ByteArray) == ⟨#[101, 113]⟩) = false := by decide +kernel
  have en1 : ((⟨#[97, 110, 100]⟩ : ByteArray) == ⟨#[108, 116]⟩) = false := by decide +kernel
  have cU := hide (fun W => ogValTruth k i s a 0 c a2 0 c2 W)
  obtain ⟨q, hq⟩ : ∃ q, truthC k i s 0 = q := ⟨_, rfl⟩
  rw [hq] at cU ⊢
  clear hq
  have cP := hide (fun W => ogPicked (!q) k i s a c a2 c2 K I S A1 Cp A3 Cq W)
  obtain ⟨kk, hkk⟩ : ∃ kk : Int, (if (!q) then k else K) = kk := ⟨_, rfl⟩
  obtain ⟨ii, hii⟩ : ∃ kk : Int, (if (!q) then i else I) = kk := ⟨_, rfl⟩
  obtain ⟨ss, hss⟩ : ∃ kk : ByteArray, (if (!q) then s else S) = kk := ⟨_, rfl⟩
  rw [hkk, hii, hss] at cP ⊢
  clear hkk hii hss
  go_enter Tryz.func161, Tryz.ntmps161
  go_wp2_with fail
  refine name_codeF fun W hW => ?_
  have C1 : Chg [] w W := by subst hW; (repeat' (first | with_reducible exact Chg.refl _ _ | with_reducible refine Chg.alloc ?_ _ | with_reducible refine Chg.drew ?_ | with_reducible refine Chg.drewN ?_ _ | with_reducible refine Chg.set_ ?_ _ _ (by first | (simp; done) | (simp; omega) | omega)))
  have KA : Blk W (w.heap.size) 26 (vCells k i s a 0 c a2 0 c2) := by subst hW; (repeat' (first | with_reducible exact Blk.new_ (by first | rfl | (simp; done) | (simp; omega)) | with_reducible refine Blk.alloc_ ?_ | with_reducible refine Blk.drew ?_ | with_reducible refine Blk.drewN ?_ _ | with_reducible refine Blk.far_ ?_ (by first | (simp; done) | (simp; omega) | omega) | with_reducible apply Blk.set_eq | rfl))
  have KB : Blk W (w.heap.size + 1) 26 (vCells K I S A1 0 Cp A3 0 Cq) := by subst hW; (repeat' (first | with_reducible exact Blk.new_ (by first | rfl | (simp; done) | (simp; omega)) | with_reducible refine Blk.alloc_ ?_ | with_reducible refine Blk.drew ?_ | with_reducible refine Blk.drewN ?_ _ | with_reducible refine Blk.far_ ?_ (by first | (simp; done) | (simp; omega) | omega) | with_reducible apply Blk.set_eq | rfl))
  have KR : Blk W (w.heap.size + 2) 26 (vCells 0 0 ⟨#[]⟩ none 0 0 none 0 0) := by subst hW; (repeat' (first | with_reducible exact Blk.new_ (by first | rfl | (simp; done) | (simp; omega)) | with_reducible refine Blk.alloc_ ?_ | with_reducible refine Blk.drew ?_ | with_reducible refine Blk.drewN ?_ _ | with_reducible refine Blk.far_ ?_ (by first | (simp; done) | (simp; omega) | omega) | with_reducible apply Blk.set_eq | rfl))
  clear hW
  have ka0 := KA.cell 0; have ka1 := KA.cell 1; have ka2 := KA.cell 2; have ka3 := KA.cell 3; have ka4 := KA.cell 4; simp at ka0 ka1 ka2 ka3 ka4
  have kb0 := KB.cell 0; have kb1 := KB.cell 1; have kb2 := KB.cell 2; have kb3 := KB.cell 3; have kb4 := KB.cell 4; simp at kb0 kb1 kb2 kb3 kb4
  have lA := KA.lt; have lB := KB.lt
  go_region_with (first
    | (go_at_call 90; refine name_world fun W1 hW1 => ?_; (have C2 : Chg [] W W1 := by subst hW1; (repeat' (first | with_reducible exact Chg.refl _ _ | with_reducible refine Chg.alloc ?_ _ | with_reducible refine Chg.drew ?_ | with_reducible refine Chg.drewN ?_ _ | with_reducible refine Chg.set_ ?_ _ _ (by first | (simp; done) | (simp; omega) | omega)))); clear hW1; refine (cU.out W1).mono ?_; rintro e w2 ⟨rfl, hb2⟩; have C3 := C2.below hb2; have KA2 := KA.chg C3 (by simp); have KB2 := KB.chg C3 (by simp); have KR2 := KR.chg C3 (by simp); clear C2 hb2 ka0 ka1 ka2 ka3 ka4 kb0 kb1 kb2 kb3 kb4 lA lB; have x0 := KA2.cell 0; have x1 := KA2.cell 1; have x2 := KA2.cell 2; have x3 := KA2.cell 3; have x4 := KA2.cell 4; simp at x0 x1 x2 x3 x4; have y0 := KB2.cell 0; have y1 := KB2.cell 1; have y2 := KB2.cell 2; have y3 := KB2.cell 3; have y4 := KB2.cell 4; simp at y0 y1 y2 y3 y4; have lA := KA2.lt; have lB := KB2.lt)
    | (go_at_call 205; refine name_world fun W4 hW4 => ?_; (have C4 : Chg [] w2 W4 := by subst hW4; (repeat' (first | with_reducible exact Chg.refl _ _ | with_reducible refine Chg.alloc ?_ _ | with_reducible refine Chg.drew ?_ | with_reducible refine Chg.drewN ?_ _ | with_reducible refine Chg.set_ ?_ _ _ (by first | (simp; done) | (simp; omega) | omega)))); clear hW4; refine (cP.out W4).mono ?_; rintro e w5 ⟨xa, xc, xa2, xc2, rfl, hb5⟩; have C5 := C4.below hb5; have KR := KR2.chg C5 (by simp); have C1 := (C1.trans C3 (by simp)).trans C5 (by simp); clear C4 hb5 C5 C3 KA2 KB2 KR2 lA lB x0 x1 x2 x3 x4 y0 y1 y2 y3 y4 KA KB; have HC := hide C1; have HR := hide KR; have r0 := KR.cell 0; have r1 := KR.cell 1; have r2 := KR.cell 2; have r3 := KR.cell 3; have r4 := KR.cell 4; simp at r0 r1 r2 r3 r4; have z0 := KR.frozen 0; have z1 := KR.frozen 1; have z2 := KR.frozen 2; have z3 := KR.frozen 3; have z4 := KR.frozen 4; have lR := KR.lt; clear KR C1))
  all_goals
    go_wp2_with fail
    refine name_postO fun W hW => ?_
    have C3 : Chg [w.heap.size + 2] w5 W := by subst hW; (repeat' (first | with_reducible exact Chg.refl _ _ | with_reducible refine Chg.alloc ?_ _ | with_reducible refine Chg.drew ?_ | with_reducible refine Chg.drewN ?_ _ | with_reducible refine Chg.set_ ?_ _ _ (by first | (simp; done) | (simp; omega) | omega)))
    have K2 : Blk W (w.heap.size + 2) 26 (vCells kk ii ss xa 0 xc xa2 0 xc2) := by subst hW; (repeat' (first | with_reducible exact HR.out | with_reducible exact Blk.new_ (by first | rfl | (simp; done) | (simp; omega)) | with_reducible refine Blk.alloc_ ?_ | with_reducible refine Blk.drew ?_ | with_reducible refine Blk.drewN ?_ _ | with_reducible refine Blk.far_ ?_ (by first | (simp; done) | (simp; omega) | omega) | with_reducible apply Blk.set_eq | rfl))
    clear r0 r1 r2 r3 r4 z0 z1 z2 z3 z4
    have k0 := K2.cell 0; have k1 := K2.cell 1; have k2 := K2.cell 2; have k3 := K2.cell 3; have k4 := K2.cell 4; simp at k0 k1 k2 k3 k4
    clear hW K2
    have hbel : Below w.heap.size w W := ((HC.out.mono (S' := [w.heap.size + 2]) (by simp)).trans C3 (by simp) |>.mono (S' := []) (by intro x hx; simp at hx; subst hx; exact .inr (by omega))).bel
    (try simp only [Exit.inBlock, Exit.then])
    refine bodyPost_ret (v := .tuple #[.agg (vCells kk ii ss xa 0 xc xa2 0 xc2), .int .i64 0]) ?_ rfl ⟨_, _, _, _, rfl, hbel⟩
    simp [results, Tryz.results161, go_sem, k0, k1, k2, k3, k4]
set_option maxHeartbeats 2000000 in
set_option maxRecDepth 100000 in
theorem ogTwoOr (k i : Int) (s : ByteArray) (a : Option Addr) (c : Nat) (a2 : Option Addr) (c2 : Nat) (K I : Int) (S : ByteArray) (A1 : Option Addr) (Cp : Nat) (A3 : Option Addr) (Cq : Nat) (w : World) :
    Calls Tryz.prog 161 #[.string ⟨#[111, 114]⟩, .agg (vCells k i s a 0 c a2 0 c2), .agg (vCells K I S A1 0 Cp A3 0 Cq)] w (ToldF w (if truthC k i s 0 then k else K) (if truthC k i s 0 then i else I) (if truthC k i s 0 then s else S) (0)) := by
  have en0 : ((⟨#[111, 114]⟩ : ByteArray) == ⟨#[101, 113]⟩) = false := by decide +kernel
  have en1 : ((⟨#[111, 114]⟩ : ByteArray) == ⟨#[108, 116]⟩) = false := by decide +kernel
  have en2 : ((⟨#[111, 114]⟩ : ByteArray) == ⟨#[97, 110, 100]⟩) = false := by decide +kernel
  have cU := hide (fun W => ogValTruth k i s a 0 c a2 0 c2 W)
  obtain ⟨q, hq⟩ : ∃ q, truthC k i s 0 = q := ⟨_, rfl⟩
  rw [hq] at cU ⊢
  clear hq
  have cP := hide (fun W => ogPicked q k i s a c a2 c2 K I S A1 Cp A3 Cq W)
  obtain ⟨kk, hkk⟩ : ∃ kk : Int, (if q then k else K) = kk := ⟨_, rfl⟩
  obtain ⟨ii, hii⟩ : ∃ kk : Int, (if q then i else I) = kk := ⟨_, rfl⟩
  obtain ⟨ss, hss⟩ : ∃ kk : ByteArray, (if q then s else S) = kk := ⟨_, rfl⟩
  rw [hkk, hii, hss] at cP ⊢
  clear hkk hii hss
  go_enter Tryz.func161, Tryz.ntmps161
  go_wp2_with fail
  refine name_codeF fun W hW => ?_
  have C1 : Chg [] w W := by subst hW; (repeat' (first | with_reducible exact Chg.refl _ _ | with_reducible refine Chg.alloc ?_ _ | with_reducible refine Chg.drew ?_ | with_reducible refine Chg.drewN ?_ _ | with_reducible refine Chg.set_ ?_ _ _ (by first | (simp; done) | (simp; omega) | omega)))
  have KA : Blk W (w.heap.size) 26 (vCells k i s a 0 c a2 0 c2) := by subst hW; (repeat' (first | with_reducible exact Blk.new_ (by first | rfl | (simp; done) | (simp; omega)) | with_reducible refine Blk.alloc_ ?_ | with_reducible refine Blk.drew ?_ | with_reducible refine Blk.drewN ?_ _ | with_reducible refine Blk.far_ ?_ (by first | (simp; done) | (simp; omega) | omega) | with_reducible apply Blk.set_eq | rfl))
  have KB : Blk W (w.heap.size + 1) 26 (vCells K I S A1 0 Cp A3 0 Cq) := by subst hW; (repeat' (first | with_reducible exact Blk.new_ (by first | rfl | (simp; done) | (simp; omega)) | with_reducible refine Blk.alloc_ ?_ | with_reducible refine Blk.drew ?_ | with_reducible refine Blk.drewN ?_ _ | with_reducible refine Blk.far_ ?_ (by first | (simp; done) | (simp; omega) | omega) | with_reducible apply Blk.set_eq | rfl))
  have KR : Blk W (w.heap.size + 2) 26 (vCells 0 0 ⟨#[]⟩ none 0 0 none 0 0) := by subst hW; (repeat' (first | with_reducible exact Blk.new_ (by first | rfl | (simp; done) | (simp; omega)) | with_reducible refine Blk.alloc_ ?_ | with_reducible refine Blk.drew ?_ | with_reducible refine Blk.drewN ?_ _ | with_reducible refine Blk.far_ ?_ (by first | (simp; done) | (simp; omega) | omega) | with_reducible apply Blk.set_eq | rfl))
  clear hW
  have ka0 := KA.cell 0; have ka1 := KA.cell 1; have ka2 := KA.cell 2; have ka3 := KA.cell 3; have ka4 := KA.cell 4; simp at ka0 ka1 ka2 ka3 ka4
  have kb0 := KB.cell 0; have kb1 := KB.cell 1; have kb2 := KB.cell 2; have kb3 := KB.cell 3; have kb4 := KB.cell 4; simp at kb0 kb1 kb2 kb3 kb4
  have lA := KA.lt; have lB := KB.lt
  go_region_with (first
    | (go_at_call 90; refine name_world fun W1 hW1 => ?_; (have C2 : Chg [] W W1 := by subst hW1; (repeat' (first | with_reducible exact Chg.refl _ _ | with_reducible refine Chg.alloc ?_ _ | with_reducible refine Chg.drew ?_ | with_reducible refine Chg.drewN ?_ _ | with_reducible refine Chg.set_ ?_ _ _ (by first | (simp; done) | (simp; omega) | omega)))); clear hW1; refine (cU.out W1).mono ?_; rintro e w2 ⟨rfl, hb2⟩; have C3 := C2.below hb2; have KA2 := KA.chg C3 (by simp); have KB2 := KB.chg C3 (by simp); have KR2 := KR.chg C3 (by simp); clear C2 hb2 ka0 ka1 ka2 ka3 ka4 kb0 kb1 kb2 kb3 kb4 lA lB; have x0 := KA2.cell 0; have x1 := KA2.cell 1; have x2 := KA2.cell 2; have x3 := KA2.cell 3; have x4 := KA2.cell 4; simp at x0 x1 x2 x3 x4; have y0 := KB2.cell 0; have y1 := KB2.cell 1; have y2 := KB2.cell 2; have y3 := KB2.cell 3; have y4 := KB2.cell 4; simp at y0 y1 y2 y3 y4; have lA := KA2.lt; have lB := KB2.lt)
    | (go_at_call 205; refine name_world fun W4 hW4 => ?_; (have C4 : Chg [] w2 W4 := by subst hW4; (repeat' (first | with_reducible exact Chg.refl _ _ | with_reducible refine Chg.alloc ?_ _ | with_reducible refine Chg.drew ?_ | with_reducible refine Chg.drewN ?_ _ | with_reducible refine Chg.set_ ?_ _ _ (by first | (simp; done) | (simp; omega) | omega)))); clear hW4; refine (cP.out W4).mono ?_; rintro e w5 ⟨xa, xc, xa2, xc2, rfl, hb5⟩; have C5 := C4.below hb5; have KR := KR2.chg C5 (by simp); have C1 := (C1.trans C3 (by simp)).trans C5 (by simp); clear C4 hb5 C5 C3 KA2 KB2 KR2 lA lB x0 x1 x2 x3 x4 y0 y1 y2 y3 y4 KA KB; have HC := hide C1; have HR := hide KR; have r0 := KR.cell 0; have r1 := KR.cell 1; have r2 := KR.cell 2; have r3 := KR.cell 3; have r4 := KR.cell 4; simp at r0 r1 r2 r3 r4; have z0 := KR.frozen 0; have z1 := KR.frozen 1; have z2 := KR.frozen 2; have z3 := KR.frozen 3; have z4 := KR.frozen 4; have lR := KR.lt; clear KR C1))
  all_goals
    go_wp2_with fail
    refine name_postO fun W hW => ?_
    have C3 : Chg [w.heap.size + 2] w5 W := by subst hW; (repeat' (first | with_reducible exact Chg.refl _ _ | with_reducible refine Chg.alloc ?_ _ | with_reducible refine Chg.drew ?_ | with_reducible refine Chg.drewN ?_ _ | with_reducible refine Chg.set_ ?_ _ _ (by first | (simp; done) | (simp; omega) | omega)))
    have K2 : Blk W (w.heap.size + 2) 26 (vCells kk ii ss xa 0 xc xa2 0 xc2) := by subst hW; (repeat' (first | with_reducible exact HR.out | with_reducible exact Blk.new_ (by first | rfl | (simp; done) | (simp; omega)) | with_reducible refine Blk.alloc_ ?_ | with_reducible refine Blk.drew ?_ | with_reducible refine Blk.drewN ?_ _ | with_reducible refine Blk.far_ ?_ (by first | (simp; done) | (simp; omega) | omega) | with_reducible apply Blk.set_eq | rfl))
    clear r0 r1 r2 r3 r4 z0 z1 z2 z3 z4
    have k0 := K2.cell 0; have k1 := K2.cell 1; have k2 := K2.cell 2; have k3 := K2.cell 3; have k4 := K2.cell 4; simp at k0 k1 k2 k3 k4
    clear hW K2
    have hbel : Below w.heap.size w W := ((HC.out.mono (S' := [w.heap.size + 2]) (by simp)).trans C3 (by simp) |>.mono (S' := []) (by intro x hx; simp at hx; subst hx; exact .inr (by omega))).bel
    (try simp only [Exit.inBlock, Exit.then])
    refine bodyPost_ret (v := .tuple #[.agg (vCells kk ii ss xa 0 xc xa2 0 xc2), .int .i64 0]) ?_ rfl ⟨_, _, _, _, rfl, hbel⟩
    simp [results, Tryz.results161, go_sem, k0, k1, k2, k3, k4]
set_option maxHeartbeats 2000000 in
set_option maxRecDepth 100000 in
theorem ogTwoDefault (k i : Int) (s : ByteArray) (a : Option Addr) (c : Nat) (a2 : Option Addr) (c2 : Nat) (K I : Int) (S : ByteArray) (A1 : Option Addr) (Cp : Nat) (A3 : Option Addr) (Cq : Nat) (w : World) :
    Calls Tryz.prog 161 #[.string ⟨#[100, 101, 102, 97, 117, 108, 116]⟩, .agg (vCells k i s a 0 c a2 0 c2), .agg (vCells K I S A1 0 Cp A3 0 Cq)] w (ToldF w (if truthC K I S 0 then K else k) (if truthC K I S 0 then I else i) (if truthC K I S 0 then S else s) (0)) := by
  have en0 : ((⟨#[100, 101, 102, 97, 117, 108, 116]⟩ : ByteArray) == ⟨#[101, 113]⟩) = false := by decide +kernel
  have en1 : ((⟨#[100, 101, 102, 97, 117, 108, 116]⟩ : ByteArray) == ⟨#[108, 116]⟩) = false := by decide +kernel
  have en2 : ((⟨#[100, 101, 102, 97, 117, 108, 116]⟩ : ByteArray) == ⟨#[97, 110, 100]⟩) = false := by decide +kernel
  have en3 : ((⟨#[100, 101, 102, 97, 117, 108, 116]⟩ : ByteArray) == ⟨#[111, 114]⟩) = false := by decide +kernel
  have cU := hide (fun W => ogValTruth K I S A1 0 Cp A3 0 Cq W)
  obtain ⟨q, hq⟩ : ∃ q, truthC K I S 0 = q := ⟨_, rfl⟩
  rw [hq] at cU ⊢
  clear hq
  have cP := hide (fun W => ogPicked q K I S A1 Cp A3 Cq k i s a c a2 c2 W)
  obtain ⟨kk, hkk⟩ : ∃ kk : Int, (if q then K else k) = kk := ⟨_, rfl⟩
  obtain ⟨ii, hii⟩ : ∃ kk : Int, (if q then I else i) = kk := ⟨_, rfl⟩
  obtain ⟨ss, hss⟩ : ∃ kk : ByteArray, (if q then S else s) = kk := ⟨_, rfl⟩
  rw [hkk, hii, hss] at cP ⊢
  clear hkk hii hss
  go_enter Tryz.func161, Tryz.ntmps161
  go_wp2_with fail
  refine name_codeF fun W hW => ?_
  have C1 : Chg [] w W := by subst hW; (repeat' (first | with_reducible exact Chg.refl _ _ | with_reducible refine Chg.alloc ?_ _ | with_reducible refine Chg.drew ?_ | with_reducible refine Chg.drewN ?_ _ | with_reducible refine Chg.set_ ?_ _ _ (by first | (simp; done) | (simp; omega) | omega)))
  have KA : Blk W (w.heap.size) 26 (vCells k i s a 0 c a2 0 c2) := by subst hW; (repeat' (first | with_reducible exact Blk.new_ (by first | rfl | (simp; done) | (simp; omega)) | with_reducible refine Blk.alloc_ ?_ | with_reducible refine Blk.drew ?_ | with_reducible refine Blk.drewN ?_ _ | with_reducible refine Blk.far_ ?_ (by first | (simp; done) | (simp; omega) | omega) | with_reducible apply Blk.set_eq | rfl))
  have KB : Blk W (w.heap.size + 1) 26 (vCells K I S A1 0 Cp A3 0 Cq) := by subst hW; (repeat' (first | with_reducible exact Blk.new_ (by first | rfl | (simp; done) | (simp; omega)) | with_reducible refine Blk.alloc_ ?_ | with_reducible refine Blk.drew ?_ | with_reducible refine Blk.drewN ?_ _ | with_reducible refine Blk.far_ ?_ (by first | (simp; done) | (simp; omega) | omega) | with_reducible apply Blk.set_eq | rfl))
  have KR : Blk W (w.heap.size + 2) 26 (vCells 0 0 ⟨#[]⟩ none 0 0 none 0 0) := by subst hW; (repeat' (first | with_reducible exact Blk.new_ (by first | rfl | (simp; done) | (simp; omega)) | with_reducible refine Blk.alloc_ ?_ | with_reducible refine Blk.drew ?_ | with_reducible refine Blk.drewN ?_ _ | with_reducible refine Blk.far_ ?_ (by first | (simp; done) | (simp; omega) | omega) | with_reducible apply Blk.set_eq | rfl))
  clear hW
  have ka0 := KA.cell 0; have ka1 := KA.cell 1; have ka2 := KA.cell 2; have ka3 := KA.cell 3; have ka4 := KA.cell 4; simp at ka0 ka1 ka2 ka3 ka4
  have kb0 := KB.cell 0; have kb1 := KB.cell 1; have kb2 := KB.cell 2; have kb3 := KB.cell 3; have kb4 := KB.cell 4; simp at kb0 kb1 kb2 kb3 kb4
  have lA := KA.lt; have lB := KB.lt
  go_region_with (first
    | (go_at_call 90; refine name_world fun W1 hW1 => ?_; (have C2 : Chg [] W W1 := by subst hW1; (repeat' (first | with_reducible exact Chg.refl _ _ | with_reducible refine Chg.alloc ?_ _ | with_reducible refine Chg.drew ?_ | with_reducible refine Chg.drewN ?_ _ | with_reducible refine Chg.set_ ?_ _ _ (by first | (simp; done) | (simp; omega) | omega)))); clear hW1; refine (cU.out W1).mono ?_; rintro e w2 ⟨rfl, hb2⟩; have C3 := C2.below hb2; have KA2 := KA.chg C3 (by simp); have KB2 := KB.chg C3 (by simp); have KR2 := KR.chg C3 (by simp); clear C2 hb2 ka0 ka1 ka2 ka3 ka4 kb0 kb1 kb2 kb3 kb4 lA lB; have x0 := KA2.cell 0; have x1 := KA2.cell 1; have x2 := KA2.cell 2; have x3 := KA2.cell 3; have x4 := KA2.cell 4; simp at x0 x1 x2 x3 x4; have y0 := KB2.cell 0; have y1 := KB2.cell 1; have y2 := KB2.cell 2; have y3 := KB2.cell 3; have y4 := KB2.cell 4; simp at y0 y1 y2 y3 y4; have lA := KA2.lt; have lB := KB2.lt)
    | (go_at_call 205; refine name_world fun W4 hW4 => ?_; (have C4 : Chg [] w2 W4 := by subst hW4; (repeat' (first | with_reducible exact Chg.refl _ _ | with_reducible refine Chg.alloc ?_ _ | with_reducible refine Chg.drew ?_ | with_reducible refine Chg.drewN ?_ _ | with_reducible refine Chg.set_ ?_ _ _ (by first | (simp; done) | (simp; omega) | omega)))); clear hW4; refine (cP.out W4).mono ?_; rintro e w5 ⟨xa, xc, xa2, xc2, rfl, hb5⟩; have C5 := C4.below hb5; have KR := KR2.chg C5 (by simp); have C1 := (C1.trans C3 (by simp)).trans C5 (by simp); clear C4 hb5 C5 C3 KA2 KB2 KR2 lA lB x0 x1 x2 x3 x4 y0 y1 y2 y3 y4 KA KB; have HC := hide C1; have HR := hide KR; have r0 := KR.cell 0; have r1 := KR.cell 1; have r2 := KR.cell 2; have r3 := KR.cell 3; have r4 := KR.cell 4; simp at r0 r1 r2 r3 r4; have z0 := KR.frozen 0; have z1 := KR.frozen 1; have z2 := KR.frozen 2; have z3 := KR.frozen 3; have z4 := KR.frozen 4; have lR := KR.lt; clear KR C1))
  all_goals
    go_wp2_with fail
    refine name_postO fun W hW => ?_
    have C3 : Chg [w.heap.size + 2] w5 W := by subst hW; (repeat' (first | with_reducible exact Chg.refl _ _ | with_reducible refine Chg.alloc ?_ _ | with_reducible refine Chg.drew ?_ | with_reducible refine Chg.drewN ?_ _ | with_reducible refine Chg.set_ ?_ _ _ (by first | (simp; done) | (simp; omega) | omega)))
    have K2 : Blk W (w.heap.size + 2) 26 (vCells kk ii ss xa 0 xc xa2 0 xc2) := by subst hW; (repeat' (first | with_reducible exact HR.out | with_reducible exact Blk.new_ (by first | rfl | (simp; done) | (simp; omega)) | with_reducible refine Blk.alloc_ ?_ | with_reducible refine Blk.drew ?_ | with_reducible refine Blk.drewN ?_ _ | with_reducible refine Blk.far_ ?_ (by first | (simp; done) | (simp; omega) | omega) | with_reducible apply Blk.set_eq | rfl))
    clear r0 r1 r2 r3 r4 z0 z1 z2 z3 z4
    have k0 := K2.cell 0; have k1 := K2.cell 1; have k2 := K2.cell 2; have k3 := K2.cell 3; have k4 := K2.cell 4; simp at k0 k1 k2 k3 k4
    clear hW K2
    have hbel : Below w.heap.size w W := ((HC.out.mono (S' := [w.heap.size + 2]) (by simp)).trans C3 (by simp) |>.mono (S' := []) (by intro x hx; simp at hx; subst hx; exact .inr (by omega))).bel
    (try simp only [Exit.inBlock, Exit.then])
    refine bodyPost_ret (v := .tuple #[.agg (vCells kk ii ss xa 0 xc xa2 0 xc2), .int .i64 0]) ?_ rfl ⟨_, _, _, _, rfl, hbel⟩
    simp [results, Tryz.results161, go_sem, k0, k1, k2, k3, k4]
end Go.Proofs.YtnepogddjinpoaaGreatDoor
