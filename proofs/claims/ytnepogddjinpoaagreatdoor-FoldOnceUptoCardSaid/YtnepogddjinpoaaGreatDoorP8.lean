/-
  PLAIN LAWS of many texts, in one.
-/
import Derived.Test.YtnepogddjinpoaaGreatDoorP6
import Derived.Test.YtnepogddjinpoaaGreatDoorP7
import Derived.Test.YtnepogddjinpoaaGreatDoorCPipe
import Derived.Test.YtnepogddjinpoaaGreatDoorM3
namespace Go.Proofs.YtnepogddjinpoaaGreatDoor
open Go.RowKit
set_option linter.unusedVariables false
set_option linter.unusedSimpArgs false

theorem ogPrintAll (U : World → Nat → Prop) (hU : Lasts U) (a : Option Addr) (c : Nat) (l : List (VD 0)) (w : World) (hL : AtR FlatC 5 U w a l) (hl : l.length ≤ 64) (hf : ∀ x ∈ l, FineF x) :
    Calls Tryz.prog 159 #[.slice a l.length c] w fun e w' => e = .returned (.string ⟨(sepFrom [32] 0 (l.map pr1)).toArray⟩) ∧ Below w.heap.size w w' := by
  have cP := hide (fun W (hb : Below w.heap.size w W) => ogPrints U hU a c l [32] W (hL.on FlatC.steady (hU.stays hb)) hl hf (by simp))
  clear hL
  obtain ⟨m, hm⟩ : ∃ m, l.length = m := ⟨_, rfl⟩
  rw [hm] at cP ⊢
  clear hm
  go_enter Tryz.func159, Tryz.ntmps159
  go_wp2_with fail
  refine name_world fun W hW => ?_
  have C1 : Chg [] w W := by subst hW; (repeat' (first | with_reducible exact Chg.refl _ _ | with_reducible refine Chg.alloc ?_ _ | with_reducible refine Chg.drew ?_ | with_reducible refine Chg.drewN ?_ _ | with_reducible refine Chg.set_ ?_ _ _ (by first | (simp; done) | (simp; omega) | omega)))
  clear hW
  refine (cP.out W C1.bel).mono ?_
  rintro e w1 ⟨rfl, hb1⟩
  have C2 := hide (C1.below hb1)
  go_wp2_with fail
  go_ret
  exact ⟨rfl, C2.out.bel⟩
set_option maxHeartbeats 2000000 in
set_option maxRecDepth 100000 in
theorem ogCallBad (s : ByteArray) (a : Option Addr) (m c : Nat) (p q : Int) (hR : arityB s = (p, q, false)) (h : True) (w : World) :
    Calls Tryz.prog 123 #[.string s, .slice a m c] w (ToldF w (0) (0) ⟨#[]⟩ (31)) := by
  have cA := hide (fun W => pArity s W)
  rw [hR] at cA
  clear hR
  go_enter Tryz.func123, Tryz.ntmps123
  go_wp2_with fail
  refine name_world fun WA hW => ?_
  have C1 : Chg [] w WA := by subst hW; (repeat' (first | with_reducible exact Chg.refl _ _ | with_reducible refine Chg.alloc ?_ _ | with_reducible refine Chg.drew ?_ | with_reducible refine Chg.drewN ?_ _ | with_reducible refine Chg.set_ ?_ _ _ (by first | (simp; done) | (simp; omega) | omega)))
  have KR : Blk WA w.heap.size 26 (vCells 0 0 ⟨#[]⟩ none 0 0 none 0 0) := by subst hW; (repeat' (first | with_reducible exact Blk.new_ (by first | rfl | (simp; done) | (simp; omega)) | with_reducible refine Blk.alloc_ ?_ | with_reducible refine Blk.drew ?_ | with_reducible refine Blk.drewN ?_ _ | with_reducible refine Blk.far_ ?_ (by first | (simp; done) | (simp; omega) | omega) | with_reducible apply Blk.set_eq | rfl))
  clear hW
  refine (cA.out WA).mono ?_
  rintro e w1 ⟨rfl, rfl⟩
  have HC := hide C1
  have HR := hide KR
  have kR0 := KR.cell 0; have kR1 := KR.cell 1; have kR2 := KR.cell 2; have kR3 := KR.cell 3; have kR4 := KR.cell 4; simp at kR0 kR1 kR2 kR3 kR4
  have z0 := KR.frozen 0; have z1 := KR.frozen 1; have z2 := KR.frozen 2; have z3 := KR.frozen 3; have z4 := KR.frozen 4
  have lR := KR.lt
  clear KR C1
  go_wp2_with fail
  refine name_postO fun W hW => ?_
  have C3 : Chg [w.heap.size] WA W := by subst hW; (repeat' (first | with_reducible exact Chg.refl _ _ | with_reducible refine Chg.alloc ?_ _ | with_reducible refine Chg.drew ?_ | with_reducible refine Chg.drewN ?_ _ | with_reducible refine Chg.set_ ?_ _ _ (by first | (simp; done) | (simp; omega) | omega)))
  have K2 : Blk W (w.heap.size) 26 (vCells 0 0 ⟨#[]⟩ none 0 0 none 0 0) := by subst hW; (repeat' (first | with_reducible exact HR.out | with_reducible exact Blk.new_ (by first | rfl | (simp; done) | (simp; omega)) | with_reducible refine Blk.alloc_ ?_ | with_reducible refine Blk.drew ?_ | with_reducible refine Blk.drewN ?_ _ | with_reducible refine Blk.far_ ?_ (by first | (simp; done) | (simp; omega) | omega) | with_reducible apply Blk.set_eq | rfl))
  clear kR0 kR1 kR2 kR3 kR4 z0 z1 z2 z3 z4
  have k0 := K2.cell 0; have k1 := K2.cell 1; have k2 := K2.cell 2; have k3 := K2.cell 3; have k4 := K2.cell 4; simp at k0 k1 k2 k3 k4
  clear hW K2
  have hbel : Below w.heap.size w W := ((HC.out.mono (S' := [w.heap.size]) (by simp)).trans C3 (by simp) |>.mono (S' := []) (by intro x hx; simp at hx; subst hx; exact .inr (by omega))).bel
  (try simp only [Exit.inBlock, Exit.then])
  refine bodyPost_ret (v := .tuple #[.agg (vCells 0 0 ⟨#[]⟩ none 0 0 none 0 0), .int .i64 31]) ?_ rfl ⟨_, _, _, _, rfl, hbel⟩
  simp [results, Tryz.results123, go_sem, k0, k1, k2, k3, k4]
set_option maxHeartbeats 2000000 in
set_option maxRecDepth 100000 in
theorem ogCallLess (s : ByteArray) (a : Option Addr) (m c : Nat) (p q : Int) (hR : arityB s = (p, q, true)) (h : (m : Int) < p) (w : World) :
    Calls Tryz.prog 123 #[.string s, .slice a m c] w (ToldF w (0) (0) ⟨#[]⟩ (3)) := by
  have d1 : decide ((m : Int) < p) = true := decide_eq_true h
  have cA := hide (fun W => pArity s W)
  rw [hR] at cA
  clear hR
  go_enter Tryz.func123, Tryz.ntmps123
  go_wp2_with fail
  refine name_world fun WA hW => ?_
  have C1 : Chg [] w WA := by subst hW; (repeat' (first | with_reducible exact Chg.refl _ _ | with_reducible refine Chg.alloc ?_ _ | with_reducible refine Chg.drew ?_ | with_reducible refine Chg.drewN ?_ _ | with_reducible refine Chg.set_ ?_ _ _ (by first | (simp; done) | (simp; omega) | omega)))
  have KR : Blk WA w.heap.size 26 (vCells 0 0 ⟨#[]⟩ none 0 0 none 0 0) := by subst hW; (repeat' (first | with_reducible exact Blk.new_ (by first | rfl | (simp; done) | (simp; omega)) | with_reducible refine Blk.alloc_ ?_ | with_reducible refine Blk.drew ?_ | with_reducible refine Blk.drewN ?_ _ | with_reducible refine Blk.far_ ?_ (by first | (simp; done) | (simp; omega) | omega) | with_reducible apply Blk.set_eq | rfl))
  clear hW
  refine (cA.out WA).mono ?_
  rintro e w1 ⟨rfl, rfl⟩
  have HC := hide C1
  have HR := hide KR
  have kR0 := KR.cell 0; have kR1 := KR.cell 1; have kR2 := KR.cell 2; have kR3 := KR.cell 3; have kR4 := KR.cell 4; simp at kR0 kR1 kR2 kR3 kR4
  have z0 := KR.frozen 0; have z1 := KR.frozen 1; have z2 := KR.frozen 2; have z3 := KR.frozen 3; have z4 := KR.frozen 4
  have lR := KR.lt
  clear KR C1
  go_wp2_with fail
  refine name_postO fun W hW => ?_
  have C3 : Chg [w.heap.size] WA W := by subst hW; (repeat' (first | with_reducible exact Chg.refl _ _ | with_reducible refine Chg.alloc ?_ _ | with_reducible refine Chg.drew ?_ | with_reducible refine Chg.drewN ?_ _ | with_reducible refine Chg.set_ ?_ _ _ (by first | (simp; done) | (simp; omega) | omega)))
  have K2 : Blk W (w.heap.size) 26 (vCells 0 0 ⟨#[]⟩ none 0 0 none 0 0) := by subst hW; (repeat' (first | with_reducible exact HR.out | with_reducible exact Blk.new_ (by first | rfl | (simp; done) | (simp; omega)) | with_reducible refine Blk.alloc_ ?_ | with_reducible refine Blk.drew ?_ | with_reducible refine Blk.drewN ?_ _ | with_reducible refine Blk.far_ ?_ (by first | (simp; done) | (simp; omega) | omega) | with_reducible apply Blk.set_eq | rfl))
  clear kR0 kR1 kR2 kR3 kR4 z0 z1 z2 z3 z4
  have k0 := K2.cell 0; have k1 := K2.cell 1; have k2 := K2.cell 2; have k3 := K2.cell 3; have k4 := K2.cell 4; simp at k0 k1 k2 k3 k4
  clear hW K2
  have hbel : Below w.heap.size w W := ((HC.out.mono (S' := [w.heap.size]) (by simp)).trans C3 (by simp) |>.mono (S' := []) (by intro x hx; simp at hx; subst hx; exact .inr (by omega))).bel
  (try simp only [Exit.inBlock, Exit.then])
  refine bodyPost_ret (v := .tuple #[.agg (vCells 0 0 ⟨#[]⟩ none 0 0 none 0 0), .int .i64 3]) ?_ rfl ⟨_, _, _, _, rfl, hbel⟩
  simp [results, Tryz.results123, go_sem, k0, k1, k2, k3, k4]
set_option maxHeartbeats 2000000 in
set_option maxRecDepth 100000 in
theorem ogCallMore (s : ByteArray) (a : Option Addr) (m c : Nat) (p q : Int) (hR : arityB s = (p, q, true)) (h : q < (m : Int)) (h2 : ¬ (m : Int) < p) (w : World) :
    Calls Tryz.prog 123 #[.string s, .slice a m c] w (ToldF w (0) (0) ⟨#[]⟩ (3)) := by
  have d1 : decide ((m : Int) < p) = false := decide_eq_false h2
  have d2 : decide (q < (m : Int)) = true := decide_eq_true h
  have cA := hide (fun W => pArity s W)
  rw [hR] at cA
  clear hR
  go_enter Tryz.func123, Tryz.ntmps123
  go_wp2_with fail
  refine name_world fun WA hW => ?_
  have C1 : Chg [] w WA := by subst hW; (repeat' (first | with_reducible exact Chg.refl _ _ | with_reducible refine Chg.alloc ?_ _ | with_reducible refine Chg.drew ?_ | with_reducible refine Chg.drewN ?_ _ | with_reducible refine Chg.set_ ?_ _ _ (by first | (simp; done) | (simp; omega) | omega)))
  have KR : Blk WA w.heap.size 26 (vCells 0 0 ⟨#[]⟩ none 0 0 none 0 0) := by subst hW; (repeat' (first | with_reducible exact Blk.new_ (by first | rfl | (simp; done) | (simp; omega)) | with_reducible refine Blk.alloc_ ?_ | with_reducible refine Blk.drew ?_ | with_reducible refine Blk.drewN ?_ _ | with_reducible refine Blk.far_ ?_ (by first | (simp; done) | (simp; omega) | omega) | with_reducible apply Blk.set_eq | rfl))
  clear hW
  refine (cA.out WA).mono ?_
  rintro e w1 ⟨rfl, rfl⟩
  have HC := hide C1
  have HR := hide KR
  have kR0 := KR.cell 0; have kR1 := KR.cell 1; have kR2 := KR.cell 2; have kR3 := KR.cell 3; have kR4 := KR.cell 4; simp at kR0 kR1 kR2 kR3 kR4
  have z0 := KR.frozen 0; have z1 := KR.frozen 1; have z2 := KR.frozen 2; have z3 := KR.frozen 3; have z4 := KR.frozen 4
  have lR := KR.lt
  clear KR C1
  go_wp2_with fail
  refine name_postO fun W hW => ?_
  have C3 : Chg [w.heap.size] WA W := by subst hW; (repeat' (first | with_reducible exact Chg.refl _ _ | with_reducible refine Chg.alloc ?_ _ | with_reducible refine Chg.drew ?_ | with_reducible refine Chg.drewN ?_ _ | with_reducible refine Chg.set_ ?_ _ _ (by first | (simp; done) | (simp; omega) | omega)))
  have K2 : Blk W (w.heap.size) 26 (vCells 0 0 ⟨#[]⟩ none 0 0 none 0 0) := by subst hW; (repeat' (first | with_reducible exact HR.out | with_reducible exact Blk.new_ (by first | rfl | (simp; done) | (simp; omega)) | with_reducible refine Blk.alloc_ ?_ | with_reducible refine Blk.drew ?_ | with_reducible refine Blk.drewN ?_ _ | with_reducible refine Blk.far_ ?_ (by first | (simp; done) | (simp; omega) | omega) | with_reducible apply Blk.set_eq | rfl))
  clear kR0 kR1 kR2 kR3 kR4 z0 z1 z2 z3 z4
  have k0 := K2.cell 0; have k1 := K2.cell 1; have k2 := K2.cell 2; have k3 := K2.cell 3; have k4 := K2.cell 4; simp at k0 k1 k2 k3 k4
  clear hW K2
  have hbel : Below w.heap.size w W := ((HC.out.mono (S' := [w.heap.size]) (by simp)).trans C3 (by simp) |>.mono (S' := []) (by intro x hx; simp at hx; subst hx; exact .inr (by omega))).bel
  (try simp only [Exit.inBlock, Exit.then])
  refine bodyPost_ret (v := .tuple #[.agg (vCells 0 0 ⟨#[]⟩ none 0 0 none 0 0), .int .i64 3]) ?_ rfl ⟨_, _, _, _, rfl, hbel⟩
  simp [results, Tryz.results123, go_sem, k0, k1, k2, k3, k4]
set_option maxHeartbeats 2000000 in
set_option maxRecDepth 100000 in
theorem ogCallPrint (a : Option Addr) (c m : Nat) (hm1 : 1 ≤ m) (hm8 : m ≤ 8) (t : ByteArray) (w : World) (hS : ∀ W, Below w.heap.size w W → Calls Tryz.prog 159 #[.slice a m c] W fun e w' => e = .returned (.string t) ∧ Below W.heap.size W w') :
    Calls Tryz.prog 123 #[.string ⟨#[112, 114, 105, 110, 116]⟩, .slice a m c] w fun e w' => e = .returned (.tuple #[madeV t, .int .i64 (madeE t)]) ∧ Below w.heap.size w w' := by
  have cS := hide hS
  have cM := hide (fun W => ogMade t W)
  obtain ⟨kz, sz, hz⟩ : ∃ (kz : Int) (sz : ByteArray), madeV t = vFlat kz 0 sz := by unfold madeV; split; exact ⟨_, _, rfl⟩; exact ⟨_, _, rfl⟩
  obtain ⟨ez, he⟩ : ∃ ez, madeE t = ez := ⟨_, rfl⟩
  rw [he]
  rw [hz, he] at cM
  have HZ := hide hz
  clear hz he hS
  have d1 : decide ((m : Int) < 1) = false := by simp; omega
  have d2 : decide ((8 : Int) < (m : Int)) = false := by simp; omega
  have hR : arityB ⟨#[112, 114, 105, 110, 116]⟩ = (1, 8, true) := by decide +kernel
  have cA := hide (fun W => pArity ⟨#[112, 114, 105, 110, 116]⟩ W)
  rw [hR] at cA
  clear hR
  go_enter Tryz.func123, Tryz.ntmps123
  go_wp2_with fail
  refine name_world fun WA hW => ?_
  have C1 : Chg [] w WA := by subst hW; (repeat' (first | with_reducible exact Chg.refl _ _ | with_reducible refine Chg.alloc ?_ _ | with_reducible refine Chg.drew ?_ | with_reducible refine Chg.drewN ?_ _ | with_reducible refine Chg.set_ ?_ _ _ (by first | (simp; done) | (simp; omega) | omega)))
  have KR : Blk WA w.heap.size 26 (vCells 0 0 ⟨#[]⟩ none 0 0 none 0 0) := by subst hW; (repeat' (first | with_reducible exact Blk.new_ (by first | rfl | (simp; done) | (simp; omega)) | with_reducible refine Blk.alloc_ ?_ | with_reducible refine Blk.drew ?_ | with_reducible refine Blk.drewN ?_ _ | with_reducible refine Blk.far_ ?_ (by first | (simp; done) | (simp; omega) | omega) | with_reducible apply Blk.set_eq | rfl))
  clear hW
  refine (cA.out WA).mono ?_
  rintro e w1 ⟨rfl, rfl⟩
  go_wp2_with fail
  refine (cS.out WA C1.bel).mono ?_
  rintro e w2 ⟨rfl, hb2⟩
  have C1 := C1.trans (Chg.of_below (S := []) hb2) (by simp)
  have KR := KR.chg (Chg.of_below (S := []) hb2) (by simp)
  clear hb2
  go_wp2_with fail
  refine (cM.out w2).mono ?_
  rintro e w3 ⟨rfl, hb3⟩
  have C1 := C1.trans (Chg.of_below (S := []) hb3) (by simp)
  have KR := KR.chg (Chg.of_below (S := []) hb3) (by simp)
  clear hb3
  have HC := hide C1
  have HR := hide KR
  have kR0 := KR.cell 0; have kR1 := KR.cell 1; have kR2 := KR.cell 2; have kR3 := KR.cell 3; have kR4 := KR.cell 4; simp at kR0 kR1 kR2 kR3 kR4
  have z0 := KR.frozen 0; have z1 := KR.frozen 1; have z2 := KR.frozen 2; have z3 := KR.frozen 3; have z4 := KR.frozen 4
  have lR := KR.lt
  clear KR C1
  go_wp2_with fail
  refine name_postO fun W hW => ?_
  have C3 : Chg [w.heap.size] w3 W := by subst hW; (repeat' (first | with_reducible exact Chg.refl _ _ | with_reducible refine Chg.alloc ?_ _ | with_reducible refine Chg.drew ?_ | with_reducible refine Chg.drewN ?_ _ | with_reducible refine Chg.set_ ?_ _ _ (by first | (simp; done) | (simp; omega) | omega)))
  have K2 : Blk W (w.heap.size) 26 (vCells kz 0 sz none 0 0 none 0 0) := by subst hW; (repeat' (first | with_reducible exact HR.out | with_reducible exact Blk.new_ (by first | rfl | (simp; done) | (simp; omega)) | with_reducible refine Blk.alloc_ ?_ | with_reducible refine Blk.drew ?_ | with_reducible refine Blk.drewN ?_ _ | with_reducible refine Blk.far_ ?_ (by first | (simp; done) | (simp; omega) | omega) | with_reducible apply Blk.set_eq | rfl))
  clear kR0 kR1 kR2 kR3 kR4 z0 z1 z2 z3 z4
  have k0 := K2.cell 0; have k1 := K2.cell 1; have k2 := K2.cell 2; have k3 := K2.cell 3; have k4 := K2.cell 4; simp at k0 k1 k2 k3 k4
  clear hW K2
  have hbel : Below w.heap.size w W := ((HC.out.mono (S' := [w.heap.size]) (by simp)).trans C3 (by simp) |>.mono (S' := []) (by intro x hx; simp at hx; subst hx; exact .inr (by omega))).bel
  (try simp only [Exit.inBlock, Exit.then])
  refine bodyPost_ret (v := .tuple #[.agg (vCells kz 0 sz none 0 0 none 0 0), .int .i64 ez]) ?_ rfl (by rw [HZ.out]; exact ⟨rfl, hbel⟩)
  simp [results, Tryz.results123, go_sem, k0, k1, k2, k3, k4]
set_option maxHeartbeats 2000000 in
set_option maxRecDepth 100000 in
theorem ogCallOne (s : ByteArray) (hR : arityB s = (1, 1, true)) (hp : (s.toList == [112, 114, 105, 110, 116]) = false) (k i : Int) (t : ByteArray) (P : Option Addr) (C : Nat) (P2 : Option Addr) (C2 : Nat) (b off c : Nat) (x y E : Int) (z : ByteArray) (w : World) (hb : b < w.heap.size) (h5 : Five w b off k i t P 0 C P2 0 C2) (hO : ∀ W, Below w.heap.size w W → Calls Tryz.prog 160 #[.string s, .agg (vCells k i t P 0 C P2 0 C2)] W (ToldF W x y z E)) :
    Calls Tryz.prog 123 #[.string s, .slice (some ⟨b, off, none⟩) 1 c] w (ToldF w (x) (y) z (E)) := by
  have cO := hide hO
  clear hO
  have cA := hide (fun W => pArity s W)
  rw [hR] at cA
  clear hR
  go_enter Tryz.func123, Tryz.ntmps123
  go_wp2_with fail
  refine name_world fun WA hW => ?_
  have C1 : Chg [] w WA := by subst hW; (repeat' (first | with_reducible exact Chg.refl _ _ | with_reducible refine Chg.alloc ?_ _ | with_reducible refine Chg.drew ?_ | with_reducible refine Chg.drewN ?_ _ | with_reducible refine Chg.set_ ?_ _ _ (by first | (simp; done) | (simp; omega) | omega)))
  have KR : Blk WA w.heap.size 26 (vCells 0 0 ⟨#[]⟩ none 0 0 none 0 0) := by subst hW; (repeat' (first | with_reducible exact Blk.new_ (by first | rfl | (simp; done) | (simp; omega)) | with_reducible refine Blk.alloc_ ?_ | with_reducible refine Blk.drew ?_ | with_reducible refine Blk.drewN ?_ _ | with_reducible refine Blk.far_ ?_ (by first | (simp; done) | (simp; omega) | omega) | with_reducible apply Blk.set_eq | rfl))
  clear hW
  refine (cA.out WA).mono ?_
  rintro e w1 ⟨rfl, rfl⟩
  obtain ⟨g0, g1, g2, g3, g4⟩ := h5.on (C1.block b hb (by simp))
  have hbW := Nat.lt_of_lt_of_le hb C1.size
  clear h5
  go_wp2_with fail
  refine name_world fun W2 hW2 => ?_
  have C12 : Chg [] WA W2 := by subst hW2; (repeat' (first | with_reducible exact Chg.refl _ _ | with_reducible refine Chg.alloc ?_ _ | with_reducible refine Chg.drew ?_ | with_reducible refine Chg.drewN ?_ _ | with_reducible refine Chg.set_ ?_ _ _ (by first | (simp; done) | (simp; omega) | omega)))
  clear hW2 g0 g1 g2 g3 g4 hbW
  have KR := KR.chg C12 (by simp)
  have C1 := C1.trans C12 (by simp)
  clear C12
  refine (cO.out W2 C1.bel).mono ?_
  rintro e w3 ⟨xa, xc, xa2, xc2, rfl, hb3⟩
  have C1 := C1.trans (Chg.of_below (S := []) hb3) (by simp)
  have KR := KR.chg (Chg.of_below (S := []) hb3) (by simp)
  clear hb3
  have HC := hide C1
  have HR := hide KR
  have kR0 := KR.cell 0; have kR1 := KR.cell 1; have kR2 := KR.cell 2; have kR3 := KR.cell 3; have kR4 := KR.cell 4; simp at kR0 kR1 kR2 kR3 kR4
  have z0 := KR.frozen 0; have z1 := KR.frozen 1; have z2 := KR.frozen 2; have z3 := KR.frozen 3; have z4 := KR.frozen 4
  have lR := KR.lt
  clear KR C1
  go_wp2_with fail
  refine name_postO fun W hW => ?_
  have C3 : Chg [w.heap.size] w3 W := by subst hW; (repeat' (first | with_reducible exact Chg.refl _ _ | with_reducible refine Chg.alloc ?_ _ | with_reducible refine Chg.drew ?_ | with_reducible refine Chg.drewN ?_ _ | with_reducible refine Chg.set_ ?_ _ _ (by first | (simp; done) | (simp; omega) | omega)))
  have K2 : Blk W (w.heap.size) 26 (vCells x y z xa 0 xc xa2 0 xc2) := by subst hW; (repeat' (first | with_reducible exact HR.out | with_reducible exact Blk.new_ (by first | rfl | (simp; done) | (simp; omega)) | with_reducible refine Blk.alloc_ ?_ | with_reducible refine Blk.drew ?_ | with_reducible refine Blk.drewN ?_ _ | with_reducible refine Blk.far_ ?_ (by first | (simp; done) | (simp; omega) | omega) | with_reducible apply Blk.set_eq | rfl))
  clear kR0 kR1 kR2 kR3 kR4 z0 z1 z2 z3 z4
  have k0 := K2.cell 0; have k1 := K2.cell 1; have k2 := K2.cell 2; have k3 := K2.cell 3; have k4 := K2.cell 4; simp at k0 k1 k2 k3 k4
  clear hW K2
  have hbel : Below w.heap.size w W := ((HC.out.mono (S' := [w.heap.size]) (by simp)).trans C3 (by simp) |>.mono (S' := []) (by intro x hx; simp at hx; subst hx; exact .inr (by omega))).bel
  (try simp only [Exit.inBlock, Exit.then])
  refine bodyPost_ret (v := .tuple #[.agg (vCells x y z xa 0 xc xa2 0 xc2), .int .i64 E]) ?_ rfl ⟨_, _, _, _, rfl, hbel⟩
  simp [results, Tryz.results123, go_sem, k0, k1, k2, k3, k4]
set_option maxHeartbeats 2000000 in
set_option maxRecDepth 100000 in
theorem ogCallTwo (s : ByteArray) (hR : arityB s = (2, 2, true)) (hp : (s.toList == [112, 114, 105, 110, 116]) = false) (k i : Int) (t : ByteArray) (P : Option Addr) (C : Nat) (P2 : Option Addr) (C2 : Nat) (K I : Int) (T : ByteArray) (Q : Option Addr) (D : Nat) (Q2 : Option Addr) (D2 : Nat) (b off c : Nat) (x y E : Int) (z : ByteArray) (w : World) (hb : b < w.heap.size) (h5 : Five w b off k i t P 0 C P2 0 C2) (h6 : Five w b (off + 5) K I T Q 0 D Q2 0 D2) (hT : ∀ W, Below w.heap.size w W → Calls Tryz.prog 161 #[.string s, .agg (vCells k i t P 0 C P2 0 C2), .agg (vCells K I T Q 0 D Q2 0 D2)] W (ToldF W x y z E)) :
    Calls Tryz.prog 123 #[.string s, .slice (some ⟨b, off, none⟩) 2 c] w (ToldF w (x) (y) z (E)) := by
  have cT := hide hT
  clear hT
  have cA := hide (fun W => pArity s W)
  rw [hR] at cA
  clear hR
  go_enter Tryz.func123, Tryz.ntmps123
  go_wp2_with fail
  refine name_world fun WA hW => ?_
  have C1 : Chg [] w WA := by subst hW; (repeat' (first | with_reducible exact Chg.refl _ _ | with_reducible refine Chg.alloc ?_ _ | with_reducible refine Chg.drew ?_ | with_reducible refine Chg.drewN ?_ _ | with_reducible refine Chg.set_ ?_ _ _ (by first | (simp; done) | (simp; omega) | omega)))
  have KR : Blk WA w.heap.size 26 (vCells 0 0 ⟨#[]⟩ none 0 0 none 0 0) := by subst hW; (repeat' (first | with_reducible exact Blk.new_ (by first | rfl | (simp; done) | (simp; omega)) | with_reducible refine Blk.alloc_ ?_ | with_reducible refine Blk.drew ?_ | with_reducible refine Blk.drewN ?_ _ | with_reducible refine Blk.far_ ?_ (by first | (simp; done) | (simp; omega) | omega) | with_reducible apply Blk.set_eq | rfl))
  clear hW
  refine (cA.out WA).mono ?_
  rintro e w1 ⟨rfl, rfl⟩
  obtain ⟨g0, g1, g2, g3, g4⟩ := h5.on (C1.block b hb (by simp))
  obtain ⟨u0, u1, u2, u3, u4⟩ := h6.on (C1.block b hb (by simp))
  have hbW := Nat.lt_of_lt_of_le hb C1.size
  clear h5 h6
  go_wp2_with fail
  go_region_with (go_at_call 161; go_loud (refine name_world fun Wc hWc => ?_; have CC : Chg [] w Wc := (by subst hWc; (repeat' (first | with_reducible exact C1 | with_reducible exact Chg.refl _ _ | with_reducible refine Chg.alloc ?_ _ | with_reducible refine Chg.drew ?_ | with_reducible refine Chg.drewN ?_ _ | with_reducible refine Chg.set_ ?_ _ _ (by first | (simp; done) | (simp; omega) | omega)))); have KRc : Blk Wc w.heap.size 26 (vCells 0 0 ⟨#[]⟩ none 0 0 none 0 0) := (by subst hWc; (repeat' (first | with_reducible exact KR | with_reducible exact Blk.new_ (by first | rfl | (simp; done) | (simp; omega)) | with_reducible refine Blk.alloc_ ?_ | with_reducible refine Blk.drew ?_ | with_reducible refine Blk.drewN ?_ _ | with_reducible refine Blk.far_ ?_ (by first | (simp; done) | (simp; omega) | omega) | with_reducible apply Blk.set_eq | rfl))); clear hWc; refine (cT.out Wc CC.bel).mono ?_; rintro e w2 ⟨xa, xc, xa2, xc2, rfl, hb2⟩; have HC2 := hide (CC.below hb2); have KR2 := KRc.chg (Chg.of_below (S := []) hb2) (by simp); have HR := hide KR2; have r0 := KR2.cell 0; have r1 := KR2.cell 1; have r2 := KR2.cell 2; have r3 := KR2.cell 3; have r4 := KR2.cell 4; simp at r0 r1 r2 r3 r4; have z0 := KR2.frozen 0; have z1 := KR2.frozen 1; have z2 := KR2.frozen 2; have z3 := KR2.frozen 3; have z4 := KR2.frozen 4; have lR := KR2.lt; clear KR2 KRc CC hb2))
  all_goals
    go_wp2_with fail
    refine name_postO fun W9 hW => ?_
    have C3 : Chg [w.heap.size] w2 W9 := by subst hW; (repeat' (first | with_reducible exact Chg.refl _ _ | with_reducible refine Chg.alloc ?_ _ | with_reducible refine Chg.drew ?_ | with_reducible refine Chg.drewN ?_ _ | with_reducible refine Chg.set_ ?_ _ _ (by first | (simp; done) | (simp; omega) | omega)))
    have K2 : Blk W9 w.heap.size 26 (vCells x y z xa 0 xc xa2 0 xc2) := by subst hW; (repeat' (first | with_reducible exact HR.out | with_reducible exact Blk.new_ (by first | rfl | (simp; done) | (simp; omega)) | with_reducible refine Blk.alloc_ ?_ | with_reducible refine Blk.drew ?_ | with_reducible refine Blk.drewN ?_ _ | with_reducible refine Blk.far_ ?_ (by first | (simp; done) | (simp; omega) | omega) | with_reducible apply Blk.set_eq | rfl))
    clear r0 r1 r2 r3 r4 z0 z1 z2 z3 z4
    have k0 := K2.cell 0; have k1 := K2.cell 1; have k2 := K2.cell 2; have k3 := K2.cell 3; have k4 := K2.cell 4; simp at k0 k1 k2 k3 k4
    clear hW K2
    have hbel := ((HC2.out.mono (S' := [w.heap.size]) (by simp)).trans C3 (by simp) |>.mono (S' := []) (by intro x hx; simp at hx; subst hx; exact .inr (Nat.le_refl _))).bel
    (try simp only [Exit.inBlock, Exit.then])
    refine bodyPost_ret (v := .tuple #[.agg (vCells x y z xa 0 xc xa2 0 xc2), .int .i64 E]) ?_ rfl ⟨_, _, _, _, rfl, hbel⟩
    simp [results, Tryz.results123, go_sem, k0, k1, k2, k3, k4]
theorem flat_five {U : World → Nat → Prop} {w : World} {a : Option Addr} {l : List (VD 0)} (h : AtR FlatC 5 U w a l) {j : Nat} {x : VD 0} (hx : l[j]? = some x) :
    ∃ b off P C P2 C2, a = some ⟨b, off, none⟩ ∧ b < w.heap.size ∧ Five w b (off + j * 5) x.k x.i ⟨x.s.toArray⟩ P 0 C P2 0 C2 := by
  obtain ⟨b, off, vs, ha, hb, _, _, hc, P, C, P2, C2, rfl⟩ := h j x hx
  exact ⟨b, off, P, C, P2, C2, ha, hb, by have := hc 0 _ rfl; simpa using this, hc 1 _ rfl, hc 2 _ rfl, hc 3 _ rfl, hc 4 _ rfl⟩
theorem print_ne (name : List UInt8) (h : name ≠ [112, 114, 105, 110, 116]) : ((⟨name.toArray⟩ : ByteArray).toList == [112, 114, 105, 110, 116]) = false := by
  rw [str_listF]
  simpa using h
set_option maxRecDepth 100000 in
theorem ogCall (U : World → Nat → Prop) (hU : Lasts U) (name : List UInt8) (a : Option Addr) (c : Nat) (l : List (VD 0)) (w : World) (hL : AtR FlatC 5 U w a l) (hf : ∀ x ∈ l, FineF x) :
    Calls Tryz.prog 123 #[.string ⟨name.toArray⟩, .slice a l.length c] w (ToldD w (callR name l)) := by
  obtain ⟨⟨p, q, ok⟩, hR⟩ : ∃ R, arityB ⟨name.toArray⟩ = R := ⟨_, rfl⟩
  cases ok with
  | false =>
    have hC : callR name l = (none, 31) := by simp [callR, hR]
    rw [hC]
    exact ogCallBad ⟨name.toArray⟩ a l.length c p q hR trivial w
  | true =>
    by_cases h1 : (l.length : Int) < p
    · have hC : callR name l = (none, 3) := by simp [callR, hR, h1]
      rw [hC]
      exact ogCallLess ⟨name.toArray⟩ a l.length c p q hR h1 w
    · by_cases h2 : q < (l.length : Int)
      · have hC : callR name l = (none, 3) := by simp [callR, hR, h2]
        rw [hC]
        exact ogCallMore ⟨name.toArray⟩ a l.length c p q hR h2 h1 w
      · rcases arity_kinds name p q hR with ⟨rfl, rfl, hn⟩ | ⟨rfl, rfl, hn⟩ | ⟨rfl, rfl, rfl⟩
        · obtain ⟨x, rfl⟩ : ∃ x, l = [x] := by
            match l, h1, h2 with
            | [x], _, _ => exact ⟨x, rfl⟩
            | [], h1, _ => simp at h1
            | _ :: _ :: _, _, h2 => simp at h2; omega
          obtain ⟨b, off, P, C, P2, C2, rfl, hb, h5⟩ := flat_five hL (j := 0) rfl
          have gx := hf x (by simp)
          rw [Nat.zero_mul, Nat.add_zero] at h5
          have hC : callR name [x] = oneR name x := by
            simp only [List.mem_cons, List.mem_nil_iff, or_false] at hn
            rcases hn with rfl | rfl | rfl | rfl <;> simp [callR, oneR, hR]
          rw [hC]
          exact ogCallOne ⟨name.toArray⟩ hR (print_ne name (by rintro rfl; simp at hn)) _ _ _ P C P2 C2 b off c _ _ _ _ w hb h5 (fun W _ => ogOne name hn gx.1 (by have := (good_len gx.2).1; omega) P C P2 C2 W)
        · obtain ⟨x, y, rfl⟩ : ∃ x y, l = [x, y] := by
            match l, h1, h2 with
            | [x, y], _, _ => exact ⟨x, y, rfl⟩
            | [], h1, _ => simp at h1
            | [_], h1, _ => simp at h1
            | _ :: _ :: _ :: _, _, h2 => simp at h2; omega
          obtain ⟨b, off, P, C, P2, C2, rfl, hb, h5⟩ := flat_five hL (j := 0) rfl
          obtain ⟨b', off', Q, D, Q2, D2, hbe, hb', h5'⟩ := flat_five hL (j := 1) rfl
          injection hbe with hbe
          injection hbe with hb1 hb2
          subst hb1; subst hb2
          rw [Nat.zero_mul, Nat.add_zero] at h5
          rw [Nat.one_mul] at h5'
          have hC : callR name [x, y] = twoR name x y := by
            simp only [List.mem_cons, List.mem_nil_iff, or_false] at hn
            rcases hn with rfl | rfl | rfl | rfl | rfl | rfl | rfl <;> simp [callR, hR]
          rw [hC]
          exact ogCallTwo ⟨name.toArray⟩ hR (print_ne name (by rintro rfl; simp at hn)) _ _ _ P C P2 C2 _ _ _ Q D Q2 D2 b off c _ _ _ _ w hb h5 h5' (fun W _ => ogTwo name hn (hf x (by simp)).1 (hf y (by simp)).1 P C P2 C2 Q D Q2 D2 W)
        · have hlen : l.length ≤ 8 := by omega
          have hl1 : 1 ≤ l.length := by omega
          have hC : callR [112, 114, 105, 110, 116] l = madeD (sepFrom [32] 0 (l.map pr1)) := by
            have hc : ¬ ((l.length : Int) < 1 ∨ (8 : Int) < (l.length : Int)) := by rintro (h | h); exact h1 h; exact h2 h
            cases l with
            | nil => simp at hl1
            | cons x t =>
              unfold callR
              simp only [hR, if_neg hc]
              simp
              rfl
          rw [hC]
          refine (ogCallPrint a c l.length hl1 hlen ⟨(sepFrom [32] 0 (l.map pr1)).toArray⟩ w (fun W hW => ogPrintAll U hU a c l W (hL.on FlatC.steady (hU.stays hW)) (by omega) hf)).mono ?_
          rintro e w' ⟨rfl, hb⟩
          have hz : (⟨(sepFrom [32] 0 (l.map pr1)).toArray⟩ : ByteArray).size = (sepFrom [32] 0 (l.map pr1)).length := mkSize _
          unfold madeD madeV madeE
          rw [hz]
          split
          · exact told_none ⟨_, _, _, _, rfl, hb⟩
          · exact told_some (d := textD _) ⟨_, _, _, _, rfl, hb⟩
end Go.Proofs.YtnepogddjinpoaaGreatDoor

namespace Go.Proofs.YtnepogddjinpoaaGreatDoor
open Go.RowKit
set_option linter.unusedVariables false
set_option linter.unusedSimpArgs false

/-- What an argument that asks nothing is. -/
def argV (a : ArgD) : VD 0 := if a.k = 3 then intD a.i else if a.k = 4 then textD a.s else if a.k = 5 then truthD true else if a.k = 6 then truthD false else nullD
def KindA (a : ArgD) : Prop := 3 ≤ a.k ∧ a.k ≤ 7
theorem argV_is {a : ArgD} (h : KindA a) (e : EnvD 0) : argR e a = (some (argV a), 0) := by
  obtain ⟨h1, h2⟩ := h
  unfold argR argV
  rw [if_neg (by omega), if_neg (by omega)]
  by_cases h3 : a.k = 3
  · rw [if_pos h3, if_pos h3]
  · by_cases h4 : a.k = 4
    · rw [if_neg h3, if_neg h3, if_pos h4, if_pos h4]
    · by_cases h5 : a.k = 5
      · rw [if_neg h3, if_neg h3, if_neg h4, if_neg h4, if_pos h5, if_pos h5]
      · by_cases h6 : a.k = 6
        · rw [if_neg h3, if_neg h3, if_neg h4, if_neg h4, if_neg h5, if_neg h5, if_pos h6, if_pos h6]
        · rw [if_neg h3, if_neg h3, if_neg h4, if_neg h4, if_neg h5, if_neg h5, if_neg h6, if_neg h6, if_pos (by omega)]
theorem argV_fine {a : ArgD} (h : KindA a) (g : GoodA a) : FineF (argV a) := by
  unfold argV
  split
  · exact ⟨flat_int _, good_int g.1.1 g.1.2⟩
  · split
    · exact ⟨flat_text _, good_text g.2⟩
    · split
      · exact ⟨flat_truth _, good_truth _⟩
      · split
        · exact ⟨flat_truth _, good_truth _⟩
        · exact ⟨flat_null, good_null⟩
set_option maxHeartbeats 2000000 in
set_option maxRecDepth 100000 in
theorem ogArg3 (nm : ByteArray) (a : Option Addr) (m c : Nat) (i : Int) (s : ByteArray) (w : World) :
    Calls Tryz.prog 122 #[envZ, .agg #[.int .i64 3, .string nm, .slice a m c, .int .i64 i, .string s]] w (ToldF w (3) (i) ⟨#[]⟩ (0)) := by
  have cT := hide (fun W => ogInt i W)
  go_enter Tryz.func122, Tryz.ntmps122
  go_wp2_with fail
  refine name_world fun WA hW => ?_
  have C1 : Chg [] w WA := by subst hW; (repeat' (first | with_reducible exact Chg.refl _ _ | with_reducible refine Chg.alloc ?_ _ | with_reducible refine Chg.drew ?_ | with_reducible refine Chg.drewN ?_ _ | with_reducible refine Chg.set_ ?_ _ _ (by first | (simp; done) | (simp; omega) | omega)))
  have KR : Blk WA (w.heap.size + 2) 26 (vCells 0 0 ⟨#[]⟩ none 0 0 none 0 0) := by subst hW; (repeat' (first | with_reducible exact Blk.new_ (by first | rfl | (simp; done) | (simp; omega)) | with_reducible refine Blk.alloc_ ?_ | with_reducible refine Blk.drew ?_ | with_reducible refine Blk.drewN ?_ _ | with_reducible refine Blk.far_ ?_ (by first | (simp; done) | (simp; omega) | omega) | with_reducible apply Blk.set_eq | rfl))
  clear hW
  refine (cT.out WA).mono ?_
  rintro e w2 ⟨rfl, hb2⟩
  have C1 := C1.trans (Chg.of_below (S := []) hb2) (by simp)
  have KR := KR.chg (Chg.of_below (S := []) hb2) (by simp)
  clear hb2
  have HC := hide C1
  have HR := hide KR
  have kR0 := KR.cell 0; have kR1 := KR.cell 1; have kR2 := KR.cell 2; have kR3 := KR.cell 3; have kR4 := KR.cell 4; simp at kR0 kR1 kR2 kR3 kR4
  have z0 := KR.frozen 0; have z1 := KR.frozen 1; have z2 := KR.frozen 2; have z3 := KR.frozen 3; have z4 := KR.frozen 4
  have lR := KR.lt
  clear KR C1
  go_wp2_with fail
  refine name_postO fun W hW => ?_
  have C3 : Chg [w.heap.size + 2] w2 W := by subst hW; (repeat' (first | with_reducible exact Chg.refl _ _ | with_reducible refine Chg.alloc ?_ _ | with_reducible refine Chg.drew ?_ | with_reducible refine Chg.drewN ?_ _ | with_reducible refine Chg.set_ ?_ _ _ (by first | (simp; done) | (simp; omega) | omega)))
  have K2 : Blk W (w.heap.size + 2) 26 (vCells 3 i ⟨#[]⟩ none 0 0 none 0 0) := by subst hW; (repeat' (first | with_reducible exact HR.out | with_reducible exact Blk.new_ (by first | rfl | (simp; done) | (simp; omega)) | with_reducible refine Blk.alloc_ ?_ | with_reducible refine Blk.drew ?_ | with_reducible refine Blk.drewN ?_ _ | with_reducible refine Blk.far_ ?_ (by first | (simp; done) | (simp; omega) | omega) | with_reducible apply Blk.set_eq | rfl))
  clear kR0 kR1 kR2 kR3 kR4 z0 z1 z2 z3 z4
  have k0 := K2.cell 0; have k1 := K2.cell 1; have k2 := K2.cell 2; have k3 := K2.cell 3; have k4 := K2.cell 4; simp at k0 k1 k2 k3 k4
  clear hW K2
  have hbel : Below w.heap.size w W := ((HC.out.mono (S' := [w.heap.size + 2]) (by simp)).trans C3 (by simp) |>.mono (S' := []) (by intro x hx; simp at hx; subst hx; exact .inr (by omega))).bel
  (try simp only [Exit.inBlock, Exit.then])
  refine bodyPost_ret (v := .tuple #[.agg (vCells 3 i ⟨#[]⟩ none 0 0 none 0 0), .int .i64 0]) ?_ rfl ⟨_, _, _, _, rfl, hbel⟩
  simp [results, Tryz.results122, go_sem, k0, k1, k2, k3, k4]
set_option maxHeartbeats 2000000 in
set_option maxRecDepth 100000 in
theorem ogArg4 (nm : ByteArray) (a : Option Addr) (m c : Nat) (i : Int) (s : ByteArray) (w : World) :
    Calls Tryz.prog 122 #[envZ, .agg #[.int .i64 4, .string nm, .slice a m c, .int .i64 i, .string s]] w (ToldF w (4) (0) s (0)) := by
  have cT := hide (fun W => ogText s W)
  go_enter Tryz.func122, Tryz.ntmps122
  go_wp2_with fail
  refine name_world fun WA hW => ?_
  have C1 : Chg [] w WA := by subst hW; (repeat' (first | with_reducible exact Chg.refl _ _ | with_reducible refine Chg.alloc ?_ _ | with_reducible refine Chg.drew ?_ | with_reducible refine Chg.drewN ?_ _ | with_reducible refine Chg.set_ ?_ _ _ (by first | (simp; done) | (simp; omega) | omega)))
  have KR : Blk WA (w.heap.size + 2) 26 (vCells 0 0 ⟨#[]⟩ none 0 0 none 0 0) := by subst hW; (repeat' (first | with_reducible exact Blk.new_ (by first | rfl | (simp; done) | (simp; omega)) | with_reducible refine Blk.alloc_ ?_ | with_reducible refine Blk.drew ?_ | with_reducible refine Blk.drewN ?_ _ | with_reducible refine Blk.far_ ?_ (by first | (simp; done) | (simp; omega) | omega) | with_reducible apply Blk.set_eq | rfl))
  clear hW
  refine (cT.out WA).mono ?_
  rintro e w2 ⟨rfl, hb2⟩
  have C1 := C1.trans (Chg.of_below (S := []) hb2) (by simp)
  have KR := KR.chg (Chg.of_below (S := []) hb2) (by simp)
  clear hb2
  have HC := hide C1
  have HR := hide KR
  have kR0 := KR.cell 0; have kR1 := KR.cell 1; have kR2 := KR.cell 2; have kR3 := KR.cell 3; have kR4 := KR.cell 4; simp at kR0 kR1 kR2 kR3 kR4
  have z0 := KR.frozen 0; have z1 := KR.frozen 1; have z2 := KR.frozen 2; have z3 := KR.frozen 3; have z4 := KR.frozen 4
  have lR := KR.lt
  clear KR C1
  go_wp2_with fail
  refine name_postO fun W hW => ?_
  have C3 : Chg [w.heap.size + 2] w2 W := by subst hW; (repeat' (first | with_reducible exact Chg.refl _ _ | with_reducible refine Chg.alloc ?_ _ | with_reducible refine Chg.drew ?_ | with_reducible refine Chg.drewN ?_ _ | with_reducible refine Chg.set_ ?_ _ _ (by first | (simp; done) | (simp; omega) | omega)))
  have K2 : Blk W (w.heap.size + 2) 26 (vCells 4 0 s none 0 0 none 0 0) := by subst hW; (repeat' (first | with_reducible exact HR.out | with_reducible exact Blk.new_ (by first | rfl | (simp; done) | (simp; omega)) | with_reducible refine Blk.alloc_ ?_ | with_reducible refine Blk.drew ?_ | with_reducible refine Blk.drewN ?_ _ | with_reducible refine Blk.far_ ?_ (by first | (simp; done) | (simp; omega) | omega) | with_reducible apply Blk.set_eq | rfl))
  clear kR0 kR1 kR2 kR3 kR4 z0 z1 z2 z3 z4
  have k0 := K2.cell 0; have k1 := K2.cell 1; have k2 := K2.cell 2; have k3 := K2.cell 3; have k4 := K2.cell 4; simp at k0 k1 k2 k3 k4
  clear hW K2
  have hbel : Below w.heap.size w W := ((HC.out.mono (S' := [w.heap.size + 2]) (by simp)).trans C3 (by simp) |>.mono (S' := []) (by intro x hx; simp at hx; subst hx; exact .inr (by omega))).bel
  (try simp only [Exit.inBlock, Exit.then])
  refine bodyPost_ret (v := .tuple #[.agg (vCells 4 0 s none 0 0 none 0 0), .int .i64 0]) ?_ rfl ⟨_, _, _, _, rfl, hbel⟩
  simp [results, Tryz.results122, go_sem, k0, k1, k2, k3, k4]
set_option maxHeartbeats 2000000 in
set_option maxRecDepth 100000 in
theorem ogArg5 (nm : ByteArray) (a : Option Addr) (m c : Nat) (i : Int) (s : ByteArray) (w : World) :
    Calls Tryz.prog 122 #[envZ, .agg #[.int .i64 5, .string nm, .slice a m c, .int .i64 i, .string s]] w (ToldF w (2) (0) ⟨#[]⟩ (0)) := by
  go_enter Tryz.func122, Tryz.ntmps122
  go_wp2_with fail
  refine name_postO fun W hW => ?_
  have C3 : Chg [] w W := by subst hW; (repeat' (first | with_reducible exact Chg.refl _ _ | with_reducible refine Chg.alloc ?_ _ | with_reducible refine Chg.drew ?_ | with_reducible refine Chg.drewN ?_ _ | with_reducible refine Chg.set_ ?_ _ _ (by first | (simp; done) | (simp; omega) | omega)))
  have K2 : Blk W (w.heap.size + 2) 26 (vCells 2 0 ⟨#[]⟩ none 0 0 none 0 0) := by subst hW; (repeat' (first | with_reducible exact Blk.new_ (by first | rfl | (simp; done) | (simp; omega)) | with_reducible refine Blk.alloc_ ?_ | with_reducible refine Blk.drew ?_ | with_reducible refine Blk.drewN ?_ _ | with_reducible refine Blk.far_ ?_ (by first | (simp; done) | (simp; omega) | omega) | with_reducible apply Blk.set_eq | rfl))
  have k0 := K2.cell 0; have k1 := K2.cell 1; have k2 := K2.cell 2; have k3 := K2.cell 3; have k4 := K2.cell 4; simp at k0 k1 k2 k3 k4
  clear hW K2
  have hbel : Below w.heap.size w W := C3.bel
  (try simp only [Exit.inBlock, Exit.then])
  refine bodyPost_ret (v := .tuple #[.agg (vCells 2 0 ⟨#[]⟩ none 0 0 none 0 0), .int .i64 0]) ?_ rfl ⟨_, _, _, _, rfl, hbel⟩
  simp [results, Tryz.results122, go_sem, k0, k1, k2, k3, k4]
set_option maxHeartbeats 2000000 in
set_option maxRecDepth 100000 in
theorem ogArg6 (nm : ByteArray) (a : Option Addr) (m c : Nat) (i : Int) (s : ByteArray) (w : World) :
    Calls Tryz.prog 122 #[envZ, .agg #[.int .i64 6, .string nm, .slice a m c, .int .i64 i, .string s]] w (ToldF w (1) (0) ⟨#[]⟩ (0)) := by
  go_enter Tryz.func122, Tryz.ntmps122
  go_wp2_with fail
  refine name_postO fun W hW => ?_
  have C3 : Chg [] w W := by subst hW; (repeat' (first | with_reducible exact Chg.refl _ _ | with_reducible refine Chg.alloc ?_ _ | with_reducible refine Chg.drew ?_ | with_reducible refine Chg.drewN ?_ _ | with_reducible refine Chg.set_ ?_ _ _ (by first | (simp; done) | (simp; omega) | omega)))
  have K2 : Blk W (w.heap.size + 2) 26 (vCells 1 0 ⟨#[]⟩ none 0 0 none 0 0) := by subst hW; (repeat' (first | with_reducible exact Blk.new_ (by first | rfl | (simp; done) | (simp; omega)) | with_reducible refine Blk.alloc_ ?_ | with_reducible refine Blk.drew ?_ | with_reducible refine Blk.drewN ?_ _ | with_reducible refine Blk.far_ ?_ (by first | (simp; done) | (simp; omega) | omega) | with_reducible apply Blk.set_eq | rfl))
  have k0 := K2.cell 0; have k1 := K2.cell 1; have k2 := K2.cell 2; have k3 := K2.cell 3; have k4 := K2.cell 4; simp at k0 k1 k2 k3 k4
  clear hW K2
  have hbel : Below w.heap.size w W := C3.bel
  (try simp only [Exit.inBlock, Exit.then])
  refine bodyPost_ret (v := .tuple #[.agg (vCells 1 0 ⟨#[]⟩ none 0 0 none 0 0), .int .i64 0]) ?_ rfl ⟨_, _, _, _, rfl, hbel⟩
  simp [results, Tryz.results122, go_sem, k0, k1, k2, k3, k4]
set_option maxHeartbeats 2000000 in
set_option maxRecDepth 100000 in
theorem ogArg7 (nm : ByteArray) (a : Option Addr) (m c : Nat) (i : Int) (s : ByteArray) (w : World) :
    Calls Tryz.prog 122 #[envZ, .agg #[.int .i64 7, .string nm, .slice a m c, .int .i64 i, .string s]] w (ToldF w (0) (0) ⟨#[]⟩ (0)) := by
  go_enter Tryz.func122, Tryz.ntmps122
  go_wp2_with fail
  refine name_postO fun W hW => ?_
  have C3 : Chg [] w W := by subst hW; (repeat' (first | with_reducible exact Chg.refl _ _ | with_reducible refine Chg.alloc ?_ _ | with_reducible refine Chg.drew ?_ | with_reducible refine Chg.drewN ?_ _ | with_reducible refine Chg.set_ ?_ _ _ (by first | (simp; done) | (simp; omega) | omega)))
  have K2 : Blk W (w.heap.size + 2) 26 (vCells 0 0 ⟨#[]⟩ none 0 0 none 0 0) := by subst hW; (repeat' (first | with_reducible exact Blk.new_ (by first | rfl | (simp; done) | (simp; omega)) | with_reducible refine Blk.alloc_ ?_ | with_reducible refine Blk.drew ?_ | with_reducible refine Blk.drewN ?_ _ | with_reducible refine Blk.far_ ?_ (by first | (simp; done) | (simp; omega) | omega) | with_reducible apply Blk.set_eq | rfl))
  have k0 := K2.cell 0; have k1 := K2.cell 1; have k2 := K2.cell 2; have k3 := K2.cell 3; have k4 := K2.cell 4; simp at k0 k1 k2 k3 k4
  clear hW K2
  have hbel : Below w.heap.size w W := C3.bel
  (try simp only [Exit.inBlock, Exit.then])
  refine bodyPost_ret (v := .tuple #[.agg (vCells 0 0 ⟨#[]⟩ none 0 0 none 0 0), .int .i64 0]) ?_ rfl ⟨_, _, _, _, rfl, hbel⟩
  simp [results, Tryz.results122, go_sem, k0, k1, k2, k3, k4]
theorem ogArg {x : ArgD} (h : KindA x) (a : Option Addr) (m c : Nat) (w : World) : Calls Tryz.prog 122 #[envZ, .agg #[.int .i64 x.k, .string ⟨x.nm.toArray⟩, .slice a m c, .int .i64 x.i, .string ⟨x.s.toArray⟩]] w (ToldD w (some (argV x), 0)) := by
  obtain ⟨h1, h2⟩ := h
  obtain ⟨k, nm, p, i, s⟩ := x
  simp only at h1 h2 ⊢
  rcases (show k = 3 ∨ k = 4 ∨ k = 5 ∨ k = 6 ∨ k = 7 by omega) with h | h | h | h | h <;> subst h
  · exact ogArg3 _ a m c i _ w
  · exact ogArg4 _ a m c i _ w
  · exact ogArg5 _ a m c i _ w
  · exact ogArg6 _ a m c i _ w
  · exact ogArg7 _ a m c i _ w
end Go.Proofs.YtnepogddjinpoaaGreatDoor

namespace Go.Proofs.YtnepogddjinpoaaGreatDoor
open Go.RowKit
set_option linter.unusedVariables false
set_option linter.unusedSimpArgs false

theorem argsV_is (e : EnvD 0) : ∀ l : List ArgD, (∀ a ∈ l, KindA a) → argsR e l = (some (l.map argV), 0) := by
  intro l
  induction l with
  | nil => intro _; rfl
  | cons a l ih =>
    intro h
    rw [args_one, argV_is (h a (by simp)) e, ih (fun b hb => h b (by simp [hb]))]
    rfl
abbrev envCs : Array Value := #[.int .i64 0, .int .i64 0, .string ⟨#[]⟩, .slice none 0 0, .slice none 0 0, .int .i64 0, .int .i64 0, .string ⟨#[]⟩, .slice none 0 0, .slice none 0 0, .slice none 0 0]
def dK (o : Option (VD 0)) : Int := (o.getD nullD).k
def dI (o : Option (VD 0)) : Int := (o.getD nullD).i
def dS (o : Option (VD 0)) : ByteArray := ⟨(o.getD nullD).s.toArray⟩
/-- Pipe's boxes, and what the call ahead told. -/
structure PipeO (w wr : World) (o : Option (VD 0)) : Prop where
  chg : Chg [] w wr
  env : Blk wr w.heap.size 168 envCs
  res : Blk wr (w.heap.size + 1) 26 (vCells 0 0 ⟨#[]⟩ none 0 0 none 0 0)
  val : ∃ p c p2 c2, Blk wr (w.heap.size + 2) 26 (vCells (dK o) (dI o) (dS o) p 0 c p2 0 c2)
  is : ∀ y, o = some y → FineF y
theorem PipeO.chgd {w wr w' : World} {o : Option (VD 0)} (h : PipeO w wr o) {S : List Nat} (c : Chg S wr w') (hS : ∀ x ∈ S, w.heap.size + 3 ≤ x) : PipeO w w' o := by
  have hn : ∀ k, k < 3 → w.heap.size + k ∉ S := fun k hk hm => by have := hS _ hm; omega
  obtain ⟨p, q, p2, q2, hv⟩ := h.val
  refine ⟨?_, h.env.chg c (by have := hn 0 (by omega); simpa using this), h.res.chg c (hn 1 (by omega)), ⟨p, q, p2, q2, hv.chg c (hn 2 (by omega))⟩, h.is⟩
  exact ((h.chg.mono (S' := S) (by simp)).trans c (fun x hx => .inl hx)).mono (fun x hx => .inr (by have := hS x hx; omega))
theorem PipeO.bel {w wr w' : World} {o : Option (VD 0)} (h : PipeO w wr o) (hb : Below wr.heap.size wr w') : PipeO w w' o := h.chgd (Chg.of_below (S := []) hb) (fun x hx => by cases hx)
set_option maxHeartbeats 8000000 in
set_option maxRecDepth 100000 in
theorem ogPipe_cons (U : World → Nat → Prop) (hU : Lasts U) (a : Option Addr) (c : Nat) (l : List CallD) (w : World) (hl0 : l ≠ []) (hL : AtR CallR 2 U w a l) (hm : sumBy massC l ≤ 1048576) (hn : ∀ x ∈ l, numC x) (hK : ∀ x ∈ l, ∀ y ∈ x.args, KindA y) :
    Calls Tryz.prog 103 #[envZ, .slice a l.length c] w (ToldD w (pipeFrom envO l none)) := by
  obtain ⟨i0, hi, hz0, hz1, hz2⟩ := info_parts info_valF
  have HL := hide (hL.low CallR.steady)
  have HGL := hide (goods hm hn)
  have HKL := hide hK
  have hlen : l.length ≤ 1048576 := Nat.le_trans (sumBy_len massC massC_pos l) hm
  have hpos : 0 < l.length := by cases l with | nil => exact absurd rfl hl0 | cons _ _ => simp
  have hne0 : ((l.length : Int) == 0) = false := by simp; omega
  have HM := hide hm
  clear hL hm hn hK hl0
  go_enter Tryz.func103, Tryz.ntmps103
  go_wp2_with fail
  refine name_codeF fun W0 hW0 => ?_
  have HI0 : Hid (PipeO w W0 none) := hide (by
    have C0 : Chg [] w W0 := by subst hW0; (repeat' (first | with_reducible exact Chg.refl _ _ | with_reducible refine Chg.alloc ?_ _ | with_reducible refine Chg.drew ?_ | with_reducible refine Chg.drewN ?_ _ | with_reducible refine Chg.set_ ?_ _ _ (by first | (simp; done) | (simp; omega) | omega)))
    exact ⟨C0, by subst hW0; (repeat' (first | with_reducible exact Blk.new_ (by first | rfl | (simp; done) | (simp; omega)) | with_reducible refine Blk.alloc_ ?_ | with_reducible refine Blk.drew ?_ | with_reducible refine Blk.drewN ?_ _ | with_reducible refine Blk.far_ ?_ (by first | (simp; done) | (simp; omega) | omega) | with_reducible apply Blk.set_eq | rfl)), by subst hW0; (repeat' (first | with_reducible exact Blk.new_ (by first | rfl | (simp; done) | (simp; omega)) | with_reducible refine Blk.alloc_ ?_ | with_reducible refine Blk.drew ?_ | with_reducible refine Blk.drewN ?_ _ | with_reducible refine Blk.far_ ?_ (by first | (simp; done) | (simp; omega) | omega) | with_reducible apply Blk.set_eq | rfl)), ⟨none, 0, none, 0, by show Blk W0 _ _ (vCells 0 0 ⟨#[]⟩ none 0 0 none 0 0); subst hW0; (repeat' (first | with_reducible exact Blk.new_ (by first | rfl | (simp; done) | (simp; omega)) | with_reducible refine Blk.alloc_ ?_ | with_reducible refine Blk.drew ?_ | with_reducible refine Blk.drewN ?_ _ | with_reducible refine Blk.far_ ?_ (by first | (simp; done) | (simp; omega) | omega) | with_reducible apply Blk.set_eq | rfl))⟩, fun y hy => by cases hy⟩)
  clear hW0
  go_loopw [21] (fun iv wr => ∃ (j : Nat) (lst : Option (VD 0)), iv = .int .i64 (j : Int) ∧ j ≤ l.length ∧ Hid (pipeFrom envO l none = pipeFrom envO (l.drop j) lst) ∧ Hid (j = 0 ↔ lst = none) ∧ Hid (PipeO w wr lst)) (fun iv _ => l.length - (intOf iv).toNat)
  case atStart => exact ⟨0, none, rfl, Nat.zero_le _, hide rfl, hide (by simp), HI0⟩
  case round =>
    obtain ⟨j, lst, rfl, hjl, hq, hj0, hI⟩ := hrel
    clear HI0
    obtain ⟨wo, hwo⟩ : ∃ x, x = wr := ⟨_, rfl⟩
    subst hwo
    by_cases hlt : j < l.length
    · obtain ⟨x, hx⟩ : ∃ x, l[j]? = some x := ⟨_, List.getElem?_eq_getElem hlt⟩
      have hxm := List.mem_of_getElem? hx
      obtain ⟨b, off, vs, rfl, hb, hu, _, hcell, hXR⟩ := HL.out j x hx
      obtain ⟨a1, c1, rfl, hA⟩ := hXR
      have hbk := hI.out.chg.block b hb (by simp)
      have f0 := (cellB hbk _).trans (hcell 0 _ rfl)
      have f1 := (cellB hbk _).trans (hcell 1 _ rfl)
      simp only [Nat.add_zero] at f0
      have hbw := Nat.lt_of_lt_of_le hb hI.out.chg.size
      have HA := hide hA
      have HGA := hide (HGL.out x hxm)
      have HKA := hide (HKL.out x hxm)
      have hxl : x.args.length ≤ 1048576 := by
        have h1 := sumBy_mem massC l x hxm
        have h2 := HM.out
        have h3 := sumBy_len massA massA_pos x.args
        unfold massC at h1 h2
        omega
      have HXL := hide hxl
      have HARGS := hide (argsV_is envO x.args HKA.out)
      have hdr : l.drop j = x :: l.drop (j + 1) := by rw [List.drop_eq_getElem_cons hlt]; congr 1; rw [List.getElem?_eq_getElem hlt] at hx; injection hx
      have HDR := hide hdr
      have HLT := hide hlt
      have hji : (j : Int) < (l.length : Int) := by omega
      have hj9 : j < 1048576 := by omega
      have hB3 : w.heap.size + 3 ≤ wo.heap.size := by obtain ⟨_, _, _, _, hv⟩ := hI.out.val; have := hv.lt; omega
      obtain ⟨nmB, hnmB⟩ : ∃ nmB : ByteArray, (⟨x.nm.toArray⟩ : ByteArray) = nmB := ⟨_, rfl⟩
      rw [hnmB] at f0
      have HNM := hide hnmB
      clear hcell hA hx hu hxm hdr hlt hjl hbk hxl hnmB
      go_wp2_with fail
      refine name_codeF fun W1 hW1 => ?_
      have C1 : Chg [] wo W1 := by subst hW1; (repeat' (first | with_reducible exact Chg.refl _ _ | with_reducible refine Chg.alloc ?_ _ | with_reducible refine Chg.drew ?_ | with_reducible refine Chg.drewN ?_ _ | with_reducible refine Chg.set_ ?_ _ _ (by first | (simp; done) | (simp; omega) | omega)))
      have K8 : Blk W1 wo.heap.size 33 #[.string nmB, .slice a1 x.args.length c1] := by subst hW1; (repeat' (first | with_reducible exact Blk.new_ (by first | rfl | (simp; done) | (simp; omega)) | with_reducible refine Blk.alloc_ ?_ | with_reducible refine Blk.drew ?_ | with_reducible refine Blk.drewN ?_ _ | with_reducible refine Blk.far_ ?_ (by first | (simp; done) | (simp; omega) | omega) | with_reducible apply Blk.set_eq | rfl))
      have HP1 := hide (hI.out.bel C1.bel)
      have HK8 := hide K8
      clear hW1 K8 C1 f0 f1 hbw hI
      go_loopw [9, 29] (fun tv kv wr => ∃ (k : Nat) (A0 : Option Addr) (cp : Nat) (es : List (List Value)) (xs : List (VD 0)), kv = .int .i64 (k : Int) ∧ tv = .slice A0 k cp ∧ k ≤ x.args.length ∧ xs.length = k ∧ Hid (xs = (x.args.take k).map argV) ∧ Hid (PipeO w wr lst) ∧ Hid (Blk wr wo.heap.size 33 #[.string nmB, .slice a1 x.args.length c1]) ∧ Hid (RowR FlatC 5 (wo.heap.size + 1) 26 wr (.slice A0 xs.length cp) es xs)) (fun _ kv _ => x.args.length - (intOf kv).toNat)
      case atStart => exact ⟨0, none, 0, [], [], rfl, rfl, Nat.zero_le _, rfl, hide rfl, HP1, HK8, hide (RowR.nil _ _ _ _ _)⟩
      case round =>
        obtain ⟨k, A0, cp, es, xs, rfl, rfl, hkl, hxl, hxs, HP, HK, HR⟩ := hrel
        clear HP1 HK8
        by_cases hlt2 : k < x.args.length
        · obtain ⟨y, hy⟩ : ∃ y, x.args[k]? = some y := ⟨_, List.getElem?_eq_getElem hlt2⟩
          obtain ⟨b2, off2, vs2, rfl, hb2, _, _, hcell2, a2, c2, rfl, _⟩ := HA.out k y hy
          have hbk2 := HP.out.chg.block b2 hb2 (by simp)
          have p0 := (cellB hbk2 _).trans (hcell2 0 _ rfl)
          have p1 := (cellB hbk2 _).trans (hcell2 1 _ rfl)
          have p2 := (cellB hbk2 _).trans (hcell2 2 _ rfl)
          have p3 := (cellB hbk2 _).trans (hcell2 3 _ rfl)
          have p4 := (cellB hbk2 _).trans (hcell2 4 _ rfl)
          simp only [Nat.add_zero] at p0
          have hbw2 := Nat.lt_of_lt_of_le hb2 HP.out.chg.size
          have hym := List.mem_of_getElem? hy
          have hfine := argV_fine (HKA.out y hym) (HGA.out y hym)
          have HF := hide hfine
          have cA := hide (fun W => ogArg (HKA.out y hym) a2 y.path.length c2 W)
          have hnx := hide (show xs ++ [argV y] = (x.args.take (k + 1)).map argV by rw [hxs.out, List.take_add_one, hy]; simp)
          have hel : es.length = k := by rw [HR.out.len, hxl]
          have hki : (k : Int) < (x.args.length : Int) := by omega
          have hk9 : k < 1048576 := by have := HXL.out; omega
          have HLT2 := hide hlt2
          have KE := HP.out.env
          have ee0 := KE.cell 0; have ee1 := KE.cell 1; have ee2 := KE.cell 2; have ee3 := KE.cell 3; have ee4 := KE.cell 4; have ee5 := KE.cell 5; have ee6 := KE.cell 6; have ee7 := KE.cell 7; have ee8 := KE.cell 8; have ee9 := KE.cell 9; have ee10 := KE.cell 10; simp at ee0 ee1 ee2 ee3 ee4 ee5 ee6 ee7 ee8 ee9 ee10
          have lE := KE.lt
          obtain ⟨nmy, hnmy⟩ : ∃ nmB : ByteArray, (⟨y.nm.toArray⟩ : ByteArray) = nmB := ⟨_, rfl⟩
          obtain ⟨sy, hsy⟩ : ∃ nmB : ByteArray, (⟨y.s.toArray⟩ : ByteArray) = nmB := ⟨_, rfl⟩
          obtain ⟨ky, hky⟩ : ∃ q, y.k = q := ⟨_, rfl⟩
          obtain ⟨iy, hiy⟩ : ∃ q, y.i = q := ⟨_, rfl⟩
          simp only [hnmy, hsy, hky, hiy] at p0 p1 p2 p3 p4 cA
          obtain ⟨u, hu⟩ : ∃ u, argV y = u := ⟨_, rfl⟩
          rw [hu] at hnx HF
          simp only [hu] at cA
          clear hcell2 hbk2 hym hfine hy hlt2 KE hnmy hsy hky hiy hu
          go_wp2_with fail
          refine name_world fun W2 hW2 => ?_
          have C2 : Chg [] wr W2 := by subst hW2; (repeat' (first | with_reducible exact Chg.refl _ _ | with_reducible refine Chg.alloc ?_ _ | with_reducible refine Chg.drew ?_ | with_reducible refine Chg.drewN ?_ _ | with_reducible refine Chg.set_ ?_ _ _ (by first | (simp; done) | (simp; omega) | omega)))
          clear hW2 p0 p1 p2 p3 p4 hbw2 ee0 ee1 ee2 ee3 ee4 ee5 ee6 ee7 ee8 ee9 ee10 lE
          refine (cA.out W2).mono ?_
          rintro e w2 ⟨P, C, P2, C3, rfl, hb3⟩
          have hB2 := (C2.below hb3).bel
          have HP2 := hide (HP.out.bel hB2)
          have HK2 := hide (HK.out.chg (Chg.of_below (S := []) hB2) (by simp))
          have HR2 := hide (HR.out.below FlatC.steady hB2)
          have hown := HR2.out.own
          rw [hel, hxl] at hown
          have hsz2 := HK2.out.lt
          clear hb3 C2 hB2 HP HK HR
          obtain ⟨dk, hdk⟩ : ∃ q, (Option.getD (some u) nullD).k = q := ⟨_, rfl⟩
          obtain ⟨di, hdi⟩ : ∃ q, (Option.getD (some u) nullD).i = q := ⟨_, rfl⟩
          obtain ⟨ds, hds⟩ : ∃ q : ByteArray, (⟨(Option.getD (some u) nullD).s.toArray⟩ : ByteArray) = q := ⟨_, rfl⟩
          simp only [hdk, hdi, hds]
          have HV : Hid (FlatC (freshB w2.heap.size) w2 [.int .i64 dk, .int .i64 di, .string ds, .slice P 0 C, .slice P2 0 C3] u) := hide (by
            rw [← hdk, ← hdi, ← hds]
            exact ⟨P, C, P2, C3, rfl⟩)
          clear hdk hdi hds
          go_wp2_with (at_builtin; refine wpList_append_lies _ rfl _ _ 23 rfl (wo.heap.size + 1) 26 i0 (.agg #[.int .i64 0, .int .i64 0, .string ⟨#[]⟩, .slice none 0 0, .slice none 0 0]) 5 80 Tryz.underlying23 hi hz0 hz1 hz2 rfl (by decide) (.slice A0 k cp) k _ rfl ((hown.alloc _).alloc _) ⟨w2.heap.size + 1, 0, none⟩ 1 1 [.int .i64 dk, .int .i64 di, .string ds, .slice P 0 C, .slice P2 0 C3] rfl rfl (by intro j u hj; match j, hj with | 0, hj => (simp at hj; subst hj; simp [Addr.add]) | 1, hj => (simp at hj; subst hj; simp [Addr.add]) | 2, hj => (simp at hj; subst hj; simp [Addr.add]) | 3, hj => (simp at hj; subst hj; simp [Addr.add]) | 4, hj => (simp at hj; subst hj; simp [Addr.add])) (by intro u hu; simp at hu; rcases hu with rfl | rfl | rfl | rfl | rfl <;> rfl) (by omega) (by unfold maxLen; omega) (by omega) (by simp; omega) _ rfl ?_)
          intro g4 cp4 w4 hown4 hgrow4 hat4 hlt4
          have hA4 := ((Below.refl w2.heap.size w2).alloc (Nat.le_refl _) (.cells #[.int .i64 dk, .int .i64 di, .string ds, .slice P 0 C, .slice P2 0 C3] 26)).alloc (by simp) (.cells #[.int .i64 dk, .int .i64 di, .string ds, .slice P 0 C, .slice P2 0 C3] 26)
          have hC4 : Chg (Value.slice A0 k cp).ownBlock.toList w2 w4 := ((Chg.refl _ _).below hA4).grown hgrow4 (fun k hk => .inl (by rw [hk]; simp))
          have hS4 : ∀ z ∈ (Value.slice A0 k cp).ownBlock.toList, wo.heap.size + 1 ≤ z := by
            intro z hz
            exact (hown.lt z (Option.mem_toList.1 hz)).1
          have HR4 := hide (HR2.out.snoc FlatC.steady (c := [.int .i64 dk, .int .i64 di, .string ds, .slice P 0 C, .slice P2 0 C3]) (y := u) rfl HV.out (fun q hq => by rw [hxl] at hq; exact (hown.lt q hq).2) (by omega) hA4 (by rw [hxl]; exact hgrow4) (by rw [hel]; exact hown4) (by rw [hxl]; simpa using hat4))
          have HP4 := hide (HP2.out.chgd hC4 (fun z hz => by have := hS4 z hz; omega))
          have HK4 := hide (HK2.out.chg hC4 (fun hz => by have := hS4 _ hz; omega))
          clear hown4 hgrow4 hat4 hlt4 hA4 hC4 hS4 hown HP2 HK2 HR2 HV
          go_wp2_with fail
          have hlt2 := HLT2.out
          go_roundw
          case rel => exact ⟨k + 1, _, _, _, xs ++ [u], by go_num, rfl, by omega, by simp [hxl], hnx, HP4, HK4, by simpa [hxl, hel] using HR4⟩
          case measure => simp [intOf]; omega
        · obtain rfl : k = x.args.length := by omega
          have hxs2 : xs = x.args.map argV := by rw [hxs.out, List.take_of_length_le (Nat.le_refl _)]
          have hif : decide ((x.args.length : Int) < (x.args.length : Int)) = false := by simp
          have hXL := HXL.out
          have HGX : Hid (∀ y ∈ xs, FineF y) := hide (by
            rw [hxs2]
            intro y hy
            obtain ⟨z, hz, rfl⟩ := List.mem_map.1 hy
            exact argV_fine (HKA.out z hz) (HGA.out z hz))
          have HST0 := hide (step_args (last := lst) HARGS.out)
          rw [← hxs2] at HST0
          clear hxs2 hxs hlt2 hkl
          rcases Nat.eq_zero_or_pos j with h0 | h0
          · have hln : lst = none := hj0.out.1 h0
            have hz0' : decide ((0 : Int) < (j : Int)) = false := by simp; omega
            have hz1' : decide (0 < j) = false := by simp; omega
            have hz2' : ¬ (0 < j) := by omega
            obtain ⟨ys, hys⟩ : ∃ ys, xs = ys := ⟨_, rfl⟩
            have HST : Hid (stepR envO x lst = if x.nm ≠ [] then callR x.nm ys else lone ys) := hide (by have h := HST0.out; rw [show xs ++ lst.toList = ys by rw [hln, Option.toList_none, List.append_nil, hys]] at h; exact h)
            have HGY : Hid (∀ y ∈ ys, FineF y) := hide (by rw [← hys]; exact HGX.out)
            have HP5 := HP
            have HK5 := HK
            have HR5 := HR
            rw [hys] at HR5
            have hyl : x.args.length = ys.length := by rw [← hys]; exact hxl.symm
            obtain ⟨m, hm⟩ : ∃ m, x.args.length = m := ⟨_, rfl⟩
            rw [hm] at hyl hif hXL HK5 HXL ⊢
            rw [← hyl] at HR5
            have HYL := hide hyl
            clear HP HK HR HST0 HGX hxl hys hln h0 hyl hm
            have KC := HK5.out
            have s0 := KC.cell 0; have s1 := KC.cell 1; simp at s0 s1
            have lC := KC.lt
            clear KC
            by_cases hnm : x.nm = []
            · have z0 : nmB.toList = [] := by rw [← HNM.out, ByteArray.toList_eq]; exact hnm
              have z1 : nmB.toList.isEmpty = true := by rw [z0]; rfl
              have z2 : (nmB.toList == []) = true := by rw [z0]; rfl
              have hst0 : stepR envO x lst = lone ys := by rw [HST.out, if_neg (by simpa using hnm)]
              clear z0
              by_cases hy1 : m = 1
              · subst hy1
                obtain ⟨u, rfl⟩ : ∃ u, ys = [u] := by
                  have h1 := HYL.out
                  match ys, h1 with
                  | [u], _ => exact ⟨u, rfl⟩
                have gu := HGY.out u (by simp)
                have HSU : Hid (stepR envO x lst = (some u, 0)) := hide (by rw [hst0]; rfl)
                obtain ⟨b5, off5, P, C, P2, C2, hA5, hb5, h5⟩ := flat_five (HR5.out.at_ (N := 0) FlatC.steady rfl (Nat.zero_le _)) (j := 0) rfl
                subst hA5
                rw [Nat.zero_mul, Nat.add_zero] at h5
                obtain ⟨g0, g1, g2, g3, g4⟩ := h5
                obtain ⟨pw, cw, pw2, cw2, KV⟩ := HP5.out.val
                obtain ⟨ek, hek⟩ : ∃ q, dK lst = q := ⟨_, rfl⟩
                obtain ⟨ei, hei⟩ : ∃ q, dI lst = q := ⟨_, rfl⟩
                obtain ⟨es9, hes⟩ : ∃ q, dS lst = q := ⟨_, rfl⟩
                rw [hek, hei, hes] at KV
                have HV5 := hide KV
                have lV := KV.lt
                have v0 := KV.cell 0; have v1 := KV.cell 1; have v2 := KV.cell 2; have v3 := KV.cell 3; have v4 := KV.cell 4; simp at v0 v1 v2 v3 v4
                have z0 := KV.frozen 0; have z1 := KV.frozen 1; have z2 := KV.frozen 2; have z3 := KV.frozen 3; have z4 := KV.frozen 4
                clear KV hek hei hes
                have hlt := HLT.out
                clear hst0 hnm
                go_wp2_with fail
                go_roundw
                case rel =>
                  refine ⟨j + 1, some u, by go_num, by omega, hide (by rw [hq.out, HDR.out, from_step HSU.out]), hide (by simp), ?_⟩
                  refine name_it (C := fun W4 => Hid (PipeO w W4 (some u))) fun W4 hW4 => ?_
                  have C4 : Chg [w.heap.size + 2] wr W4 := by subst hW4; (repeat' (first | with_reducible exact Chg.refl _ _ | with_reducible refine Chg.alloc ?_ _ | with_reducible refine Chg.drew ?_ | with_reducible refine Chg.drewN ?_ _ | with_reducible refine Chg.set_ ?_ _ _ (by first | (simp; done) | (simp; omega) | omega)))
                  have KV4 : Blk W4 (w.heap.size + 2) 26 (vCells u.k u.i ⟨u.s.toArray⟩ P 0 C P2 0 C2) := by subst hW4; (repeat' (first | with_reducible exact HV5.out | with_reducible exact Blk.new_ (by first | rfl | (simp; done) | (simp; omega)) | with_reducible refine Blk.alloc_ ?_ | with_reducible refine Blk.drew ?_ | with_reducible refine Blk.drewN ?_ _ | with_reducible refine Blk.far_ ?_ (by first | (simp; done) | (simp; omega) | omega) | with_reducible apply Blk.set_eq | rfl))
                  clear hW4
                  refine hide ⟨?_, HP5.out.env.chg C4 (by simp), HP5.out.res.chg C4 (by simp), ⟨P, C, P2, C2, KV4⟩, ?_⟩
                  · exact ((HP5.out.chg.mono (S' := [w.heap.size + 2]) (by simp)).trans C4 (by simp)).mono (by intro x hx; simp at hx; subst hx; exact .inr (by omega))
                  · intro y hy
                    injection hy with hy
                    subst hy
                    exact gu
                case measure => simp [intOf]; omega
              · have HSU : Hid (stepR envO x lst = (none, 9)) := hide (by
                  rw [hst0]
                  have h1 := HYL.out
                  match ys, h1 with
                  | [], _ => rfl
                  | [_], h => exact absurd h hy1
                  | _ :: _ :: _, _ => rfl)
                have hyn1 : ((m : Int) == 1) = false := by simp; omega
                have hyn2 : ((m : Int) != 1) = true := by simp; omega
                have hyn3 : decide ((m : Int) = 1) = false := by simp; omega
                clear hy1 hst0 hnm
                have HRb := hide HP5.out.res
                have HCb := hide HP5.out.chg
                have KRb := HRb.out
                have lR := KRb.lt
                have q0 := KRb.cell 0; have q1 := KRb.cell 1; have q2 := KRb.cell 2; have q3 := KRb.cell 3; have q4 := KRb.cell 4; simp at q0 q1 q2 q3 q4
                have y0 := KRb.frozen 0; have y1 := KRb.frozen 1; have y2 := KRb.frozen 2; have y3 := KRb.frozen 3; have y4 := KRb.frozen 4
                clear KRb
                go_wp2_with fail
                refine name_postO fun W4 hW4 => ?_
                have C4 : Chg [w.heap.size + 1] wr W4 := by subst hW4; (repeat' (first | with_reducible exact Chg.refl _ _ | with_reducible refine Chg.alloc ?_ _ | with_reducible refine Chg.drew ?_ | with_reducible refine Chg.drewN ?_ _ | with_reducible refine Chg.set_ ?_ _ _ (by first | (simp; done) | (simp; omega) | omega)))
                have KR4 : Blk W4 (w.heap.size + 1) 26 (vCells 0 0 ⟨#[]⟩ none 0 0 none 0 0) := by subst hW4; (repeat' (first | with_reducible exact HRb.out | with_reducible exact Blk.new_ (by first | rfl | (simp; done) | (simp; omega)) | with_reducible refine Blk.alloc_ ?_ | with_reducible refine Blk.drew ?_ | with_reducible refine Blk.drewN ?_ _ | with_reducible refine Blk.far_ ?_ (by first | (simp; done) | (simp; omega) | omega) | with_reducible apply Blk.set_eq | rfl))
                clear hW4 q0 q1 q2 q3 q4 y0 y1 y2 y3 y4
                have k0 := KR4.cell 0; have k1 := KR4.cell 1; have k2 := KR4.cell 2; have k3 := KR4.cell 3; have k4 := KR4.cell 4; simp at k0 k1 k2 k3 k4
                clear KR4
                have hbel := (((HCb.out.mono (S' := [w.heap.size + 1]) (by simp)).trans C4 (by simp)).mono (S' := []) (by intro x hx; simp at hx; first | (subst hx; exact .inr (by omega)) | (rcases hx with rfl | rfl <;> exact .inr (by omega)))).bel
                (try simp only [Exit.inBlock, Exit.then])
                refine bodyPost_ret (v := .tuple #[.agg (vCells 0 0 ⟨#[]⟩ none 0 0 none 0 0), .int .i64 9]) ?_ rfl (by rw [hq.out, HDR.out, from_err HSU.out]; exact ⟨_, _, _, _, rfl, hbel⟩)
                simp [results, Tryz.results103, go_sem, k0, k1, k2, k3, k4]
            · have z0 : nmB.toList = x.nm := by rw [← HNM.out, ByteArray.toList_eq]
              have z1 : nmB.toList.isEmpty = false := by rw [z0]; cases hx : x.nm with | nil => exact absurd hx hnm | cons a b => rfl
              have z2 : (nmB.toList == []) = false := by rw [z0]; simpa using hnm
              have hst0 : stepR envO x lst = callR x.nm ys := by rw [HST.out, if_pos hnm]
              clear z0
              have cC := hide (fun W (hW : Below wr.heap.size wr W) => ogCall anyB lasts_any x.nm A0 cp ys W ((HR5.out.at_ (N := 0) FlatC.steady rfl (Nat.zero_le _)).on FlatC.steady ⟨hW.size, fun b hb _ => ⟨hW.block b hb, trivial⟩⟩) HGY.out)
              simp only [HNM.out, ← HYL.out] at cC
              rcases call_fine x.nm ys (fun y hy => (HGY.out y hy).2) with ⟨u, hu, gu0⟩ | ⟨E1, hu, hE1⟩
              · have gu : FineF u := ⟨call_flat x.nm ys (fun y hy => (HGY.out y hy).1) u (by rw [hu]), gu0⟩
                have HSU : Hid (stepR envO x lst = (some u, 0)) := hide (by rw [hst0, hu])
                simp only [hu] at cC
                have cC1 : Hid (∀ W, Below wr.heap.size wr W → Calls Tryz.prog 123 #[.string nmB, .slice A0 m cp] W (ToldF W u.k u.i ⟨u.s.toArray⟩ 0)) := cC
                clear cC hst0 hnm hu
                go_wp2_with fail
                refine (cC1.out _ (Below.refl _ _)).mono ?_
                rintro e' w6 ⟨P, C, P2, C2, rfl, hb6⟩
                have HP6 := hide (HP5.out.bel hb6)
                clear hb6 s0 s1 lC
                obtain ⟨pw, cw, pw2, cw2, KV⟩ := HP6.out.val
                obtain ⟨ek, hek⟩ : ∃ q, dK lst = q := ⟨_, rfl⟩
                obtain ⟨ei, hei⟩ : ∃ q, dI lst = q := ⟨_, rfl⟩
                obtain ⟨es9, hes⟩ : ∃ q, dS lst = q := ⟨_, rfl⟩
                rw [hek, hei, hes] at KV
                have HV5 := hide KV
                have lV := KV.lt
                have v0 := KV.cell 0; have v1 := KV.cell 1; have v2 := KV.cell 2; have v3 := KV.cell 3; have v4 := KV.cell 4; simp at v0 v1 v2 v3 v4
                have z0 := KV.frozen 0; have z1 := KV.frozen 1; have z2 := KV.frozen 2; have z3 := KV.frozen 3; have z4 := KV.frozen 4
                clear KV hek hei hes
                have hlt := HLT.out
                go_wp2_with fail
                go_roundw
                case rel =>
                  refine ⟨j + 1, some u, by go_num, by omega, hide (by rw [hq.out, HDR.out, from_step HSU.out]), hide (by simp), ?_⟩
                  refine name_it (C := fun W4 => Hid (PipeO w W4 (some u))) fun W4 hW4 => ?_
                  have C4 : Chg [w.heap.size + 2] w6 W4 := by subst hW4; (repeat' (first | with_reducible exact Chg.refl _ _ | with_reducible refine Chg.alloc ?_ _ | with_reducible refine Chg.drew ?_ | with_reducible refine Chg.drewN ?_ _ | with_reducible refine Chg.set_ ?_ _ _ (by first | (simp; done) | (simp; omega) | omega)))
                  have KV4 : Blk W4 (w.heap.size + 2) 26 (vCells u.k u.i ⟨u.s.toArray⟩ P 0 C P2 0 C2) := by subst hW4; (repeat' (first | with_reducible exact HV5.out | with_reducible exact Blk.new_ (by first | rfl | (simp; done) | (simp; omega)) | with_reducible refine Blk.alloc_ ?_ | with_reducible refine Blk.drew ?_ | with_reducible refine Blk.drewN ?_ _ | with_reducible refine Blk.far_ ?_ (by first | (simp; done) | (simp; omega) | omega) | with_reducible apply Blk.set_eq | rfl))
                  clear hW4
                  refine hide ⟨?_, HP6.out.env.chg C4 (by simp), HP6.out.res.chg C4 (by simp), ⟨P, C, P2, C2, KV4⟩, ?_⟩
                  · exact ((HP6.out.chg.mono (S' := [w.heap.size + 2]) (by simp)).trans C4 (by simp)).mono (by intro x hx; simp at hx; subst hx; exact .inr (by omega))
                  · intro y hy
                    injection hy with hy
                    subst hy
                    exact gu
                case measure => simp [intOf]; omega
              · have eE : (E1 == 0) = false := by simpa using hE1
                have HSU : Hid (stepR envO x lst = (none, E1)) := hide (by rw [hst0, hu])
                simp only [hu] at cC
                have cC1 : Hid (∀ W, Below wr.heap.size wr W → Calls Tryz.prog 123 #[.string nmB, .slice A0 m cp] W (ToldF W 0 0 ⟨#[]⟩ E1)) := cC
                clear cC hst0 hnm hu
                go_wp2_with fail
                refine (cC1.out _ (Below.refl _ _)).mono ?_
                rintro e' w6 ⟨P, C, P2, C2, rfl, hb6⟩
                have HP6 := hide (HP5.out.bel hb6)
                clear hb6 s0 s1 lC hE1
                obtain ⟨pw, cw, pw2, cw2, KV⟩ := HP6.out.val
                obtain ⟨ek, hek⟩ : ∃ q, dK lst = q := ⟨_, rfl⟩
                obtain ⟨ei, hei⟩ : ∃ q, dI lst = q := ⟨_, rfl⟩
                obtain ⟨es9, hes⟩ : ∃ q, dS lst = q := ⟨_, rfl⟩
                rw [hek, hei, hes] at KV
                have HV5 := hide KV
                have lV := KV.lt
                have v0 := KV.cell 0; have v1 := KV.cell 1; have v2 := KV.cell 2; have v3 := KV.cell 3; have v4 := KV.cell 4; simp at v0 v1 v2 v3 v4
                have z0 := KV.frozen 0; have z1 := KV.frozen 1; have z2 := KV.frozen 2; have z3 := KV.frozen 3; have z4 := KV.frozen 4
                clear KV hek hei hes
                have HRb := hide HP6.out.res
                have HCb := hide HP6.out.chg
                have KRb := HRb.out
                have lR := KRb.lt
                have q0 := KRb.cell 0; have q1 := KRb.cell 1; have q2 := KRb.cell 2; have q3 := KRb.cell 3; have q4 := KRb.cell 4; simp at q0 q1 q2 q3 q4
                have y0 := KRb.frozen 0; have y1 := KRb.frozen 1; have y2 := KRb.frozen 2; have y3 := KRb.frozen 3; have y4 := KRb.frozen 4
                clear KRb
                go_wp2_with fail
                refine name_postO fun W4 hW4 => ?_
                have C4 : Chg [w.heap.size + 1, w.heap.size + 2] w6 W4 := by subst hW4; (repeat' (first | with_reducible exact Chg.refl _ _ | with_reducible refine Chg.alloc ?_ _ | with_reducible refine Chg.drew ?_ | with_reducible refine Chg.drewN ?_ _ | with_reducible refine Chg.set_ ?_ _ _ (by first | (simp; done) | (simp; omega) | omega)))
                have KR4 : Blk W4 (w.heap.size + 1) 26 (vCells 0 0 ⟨#[]⟩ none 0 0 none 0 0) := by subst hW4; (repeat' (first | with_reducible exact HRb.out | with_reducible exact Blk.new_ (by first | rfl | (simp; done) | (simp; omega)) | with_reducible refine Blk.alloc_ ?_ | with_reducible refine Blk.drew ?_ | with_reducible refine Blk.drewN ?_ _ | with_reducible refine Blk.far_ ?_ (by first | (simp; done) | (simp; omega) | omega) | with_reducible apply Blk.set_eq | rfl))
                clear hW4 q0 q1 q2 q3 q4 y0 y1 y2 y3 y4
                have k0 := KR4.cell 0; have k1 := KR4.cell 1; have k2 := KR4.cell 2; have k3 := KR4.cell 3; have k4 := KR4.cell 4; simp at k0 k1 k2 k3 k4
                clear KR4
                have hbel := (((HCb.out.mono (S' := [w.heap.size + 1, w.heap.size + 2]) (by simp)).trans C4 (by simp)).mono (S' := []) (by intro x hx; simp at hx; first | (subst hx; exact .inr (by omega)) | (rcases hx with rfl | rfl <;> exact .inr (by omega)))).bel
                (try simp only [Exit.inBlock, Exit.then])
                refine bodyPost_ret (v := .tuple #[.agg (vCells 0 0 ⟨#[]⟩ none 0 0 none 0 0), .int .i64 E1]) ?_ rfl (by rw [hq.out, HDR.out, from_err HSU.out]; exact ⟨_, _, _, _, rfl, hbel⟩)
                simp [results, Tryz.results103, go_sem, k0, k1, k2, k3, k4]
          · obtain ⟨z, hlz⟩ : ∃ z, lst = some z := by
              cases lst with
              | none => exact absurd (hj0.out.2 rfl) (by omega)
              | some z => exact ⟨z, rfl⟩
            have hz0' : decide ((0 : Int) < (j : Int)) = true := by simp; omega
            have gz := HP.out.is z hlz
            obtain ⟨pv, cv, pv2, cv2, KV⟩ := HP.out.val
            have hel : es.length = x.args.length := by rw [HR.out.len, hxl]
            have hown := HR.out.own
            rw [hel, hxl] at hown
            have hsz2 := HK.out.lt
            have hV0 : FlatC (freshB wr.heap.size) wr [.int .i64 (dK lst), .int .i64 (dI lst), .string (dS lst), .slice pv 0 cv, .slice pv2 0 cv2] z := by
              rw [hlz]
              exact ⟨pv, cv, pv2, cv2, rfl⟩
            obtain ⟨dk, hdk⟩ : ∃ q, dK lst = q := ⟨_, rfl⟩
            obtain ⟨di, hdi⟩ : ∃ q, dI lst = q := ⟨_, rfl⟩
            obtain ⟨ds, hds⟩ : ∃ q, dS lst = q := ⟨_, rfl⟩
            rw [hdk, hdi, hds] at KV hV0
            have HV := hide hV0
            have q0 := KV.cell 0; have q1 := KV.cell 1; have q2 := KV.cell 2; have q3 := KV.cell 3; have q4 := KV.cell 4; simp at q0 q1 q2 q3 q4
            have lV := KV.lt
            clear KV hV0 hdk hdi hds
            go_wp2_with (at_builtin; refine wpList_append_lies _ rfl _ _ 23 rfl (wo.heap.size + 1) 26 i0 (.agg #[.int .i64 0, .int .i64 0, .string ⟨#[]⟩, .slice none 0 0, .slice none 0 0]) 5 80 Tryz.underlying23 hi hz0 hz1 hz2 rfl (by decide) (.slice A0 x.args.length cp) x.args.length _ rfl (hown.alloc _) ⟨wr.heap.size, 0, none⟩ 1 1 [.int .i64 dk, .int .i64 di, .string ds, .slice pv 0 cv, .slice pv2 0 cv2] rfl rfl (by intro j u hj; match j, hj with | 0, hj => (simp at hj; subst hj; simp [Addr.add]) | 1, hj => (simp at hj; subst hj; simp [Addr.add]) | 2, hj => (simp at hj; subst hj; simp [Addr.add]) | 3, hj => (simp at hj; subst hj; simp [Addr.add]) | 4, hj => (simp at hj; subst hj; simp [Addr.add])) (by intro u hu; simp at hu; rcases hu with rfl | rfl | rfl | rfl | rfl <;> rfl) (by omega) (by unfold maxLen; omega) (by omega) (by simp; omega) _ rfl ?_)
            intro g4 cp4 w4 hown4 hgrow4 hat4 hlt4
            have hA4 := (Below.refl wr.heap.size wr).alloc (Nat.le_refl _) (.cells #[.int .i64 dk, .int .i64 di, .string ds, .slice pv 0 cv, .slice pv2 0 cv2] 26)
            have hC4 : Chg (Value.slice A0 x.args.length cp).ownBlock.toList wr w4 := ((Chg.refl _ _).below hA4).grown hgrow4 (fun k hk => .inl (by rw [hk]; simp))
            have hS4 : ∀ z ∈ (Value.slice A0 x.args.length cp).ownBlock.toList, wo.heap.size + 1 ≤ z := by
              intro z hz
              exact (hown.lt z (Option.mem_toList.1 hz)).1
            have HR4 := hide (HR.out.snoc FlatC.steady (c := [.int .i64 dk, .int .i64 di, .string ds, .slice pv 0 cv, .slice pv2 0 cv2]) (y := z) rfl HV.out (fun q hq => by rw [hxl] at hq; exact (hown.lt q hq).2) (by omega) hA4 (by rw [hxl]; exact hgrow4) (by rw [hel]; exact hown4) (by rw [hxl]; simpa using hat4))
            have HP5 := hide (HP.out.chgd hC4 (fun z hz => by have := hS4 z hz; omega))
            have HK5 := hide (HK.out.chg hC4 (fun hz => by have := hS4 _ hz; omega))
            have key : ∃ ys : List (VD 0), ys = xs ++ [z] ∧ RowR FlatC 5 (wo.heap.size + 1) 26 w4 (.slice (some ⟨g4, 0, none⟩) (es.length + 1) cp4) (es ++ [[.int .i64 dk, .int .i64 di, .string ds, .slice pv 0 cv, .slice pv2 0 cv2]]) ys := ⟨xs ++ [z], rfl, HR4.out⟩
            clear HR4
            obtain ⟨ys, hys, hR4⟩ := key
            have hyl : x.args.length + 1 = ys.length := by rw [hys, List.length_append, hxl]; rfl
            rw [hel] at hR4
            have HR5 := hide hR4
            have HST : Hid (stepR envO x lst = if x.nm ≠ [] then callR x.nm ys else lone ys) := hide (by have h := HST0.out; rw [show xs ++ lst.toList = ys by rw [hlz, Option.toList_some, ← hys]] at h; exact h)
            have HGY : Hid (∀ y ∈ ys, FineF y) := hide (by
              rw [hys]
              intro y hy
              rcases List.mem_append.1 hy with h | h
              · exact HGX.out y h
              · rw [List.mem_singleton.1 h]; exact gz)
            obtain ⟨m, hm⟩ : ∃ m, x.args.length + 1 = m := ⟨_, rfl⟩
            rw [hm] at hyl HR5 ⊢
            have hXL : m ≤ 1048577 := by omega
            have HYL := hide hyl
            obtain ⟨A5, hA5⟩ : ∃ A5, some (⟨g4, 0, none⟩ : Addr) = A5 := ⟨_, rfl⟩
            rw [hA5] at HR5 ⊢
            clear hown4 hgrow4 hat4 hlt4 hA4 hC4 hS4 hown HP HK HR HV HST0 HGX hxl hys hyl hlz gz hel hR4 hm hA5 q0 q1 q2 q3 q4 lV h0
            have KC := HK5.out
            have s0 := KC.cell 0; have s1 := KC.cell 1; simp at s0 s1
            have lC := KC.lt
            clear KC
            by_cases hnm : x.nm = []
            · have z0 : nmB.toList = [] := by rw [← HNM.out, ByteArray.toList_eq]; exact hnm
              have z1 : nmB.toList.isEmpty = true := by rw [z0]; rfl
              have z2 : (nmB.toList == []) = true := by rw [z0]; rfl
              have hst0 : stepR envO x lst = lone ys := by rw [HST.out, if_neg (by simpa using hnm)]
              clear z0
              by_cases hy1 : m = 1
              · subst hy1
                obtain ⟨u, rfl⟩ : ∃ u, ys = [u] := by
                  have h1 := HYL.out
                  match ys, h1 with
                  | [u], _ => exact ⟨u, rfl⟩
                have gu := HGY.out u (by simp)
                have HSU : Hid (stepR envO x lst = (some u, 0)) := hide (by rw [hst0]; rfl)
                obtain ⟨b5, off5, P, C, P2, C2, hA5, hb5, h5⟩ := flat_five (HR5.out.at_ (N := 0) FlatC.steady rfl (Nat.zero_le _)) (j := 0) rfl
                subst hA5
                rw [Nat.zero_mul, Nat.add_zero] at h5
                obtain ⟨g0, g1, g2, g3, g4⟩ := h5
                obtain ⟨pw, cw, pw2, cw2, KV⟩ := HP5.out.val
                obtain ⟨ek, hek⟩ : ∃ q, dK lst = q := ⟨_, rfl⟩
                obtain ⟨ei, hei⟩ : ∃ q, dI lst = q := ⟨_, rfl⟩
                obtain ⟨es9, hes⟩ : ∃ q, dS lst = q := ⟨_, rfl⟩
                rw [hek, hei, hes] at KV
                have HV5 := hide KV
                have lV := KV.lt
                have v0 := KV.cell 0; have v1 := KV.cell 1; have v2 := KV.cell 2; have v3 := KV.cell 3; have v4 := KV.cell 4; simp at v0 v1 v2 v3 v4
                have z0 := KV.frozen 0; have z1 := KV.frozen 1; have z2 := KV.frozen 2; have z3 := KV.frozen 3; have z4 := KV.frozen 4
                clear KV hek hei hes
                have hlt := HLT.out
                clear hst0 hnm
                go_wp2_with fail
                go_roundw
                case rel =>
                  refine ⟨j + 1, some u, by go_num, by omega, hide (by rw [hq.out, HDR.out, from_step HSU.out]), hide (by simp), ?_⟩
                  refine name_it (C := fun W4 => Hid (PipeO w W4 (some u))) fun W4 hW4 => ?_
                  have C4 : Chg [w.heap.size + 2] w4 W4 := by subst hW4; (repeat' (first | with_reducible exact Chg.refl _ _ | with_reducible refine Chg.alloc ?_ _ | with_reducible refine Chg.drew ?_ | with_reducible refine Chg.drewN ?_ _ | with_reducible refine Chg.set_ ?_ _ _ (by first | (simp; done) | (simp; omega) | omega)))
                  have KV4 : Blk W4 (w.heap.size + 2) 26 (vCells u.k u.i ⟨u.s.toArray⟩ P 0 C P2 0 C2) := by subst hW4; (repeat' (first | with_reducible exact HV5.out | with_reducible exact Blk.new_ (by first | rfl | (simp; done) | (simp; omega)) | with_reducible refine Blk.alloc_ ?_ | with_reducible refine Blk.drew ?_ | with_reducible refine Blk.drewN ?_ _ | with_reducible refine Blk.far_ ?_ (by first | (simp; done) | (simp; omega) | omega) | with_reducible apply Blk.set_eq | rfl))
                  clear hW4
                  refine hide ⟨?_, HP5.out.env.chg C4 (by simp), HP5.out.res.chg C4 (by simp), ⟨P, C, P2, C2, KV4⟩, ?_⟩
                  · exact ((HP5.out.chg.mono (S' := [w.heap.size + 2]) (by simp)).trans C4 (by simp)).mono (by intro x hx; simp at hx; subst hx; exact .inr (by omega))
                  · intro y hy
                    injection hy with hy
                    subst hy
                    exact gu
                case measure => simp [intOf]; omega
              · have HSU : Hid (stepR envO x lst = (none, 9)) := hide (by
                  rw [hst0]
                  have h1 := HYL.out
                  match ys, h1 with
                  | [], _ => rfl
                  | [_], h => exact absurd h hy1
                  | _ :: _ :: _, _ => rfl)
                have hyn1 : ((m : Int) == 1) = false := by simp; omega
                have hyn2 : ((m : Int) != 1) = true := by simp; omega
                have hyn3 : decide ((m : Int) = 1) = false := by simp; omega
                clear hy1 hst0 hnm
                have HRb := hide HP5.out.res
                have HCb := hide HP5.out.chg
                have KRb := HRb.out
                have lR := KRb.lt
                have q0 := KRb.cell 0; have q1 := KRb.cell 1; have q2 := KRb.cell 2; have q3 := KRb.cell 3; have q4 := KRb.cell 4; simp at q0 q1 q2 q3 q4
                have y0 := KRb.frozen 0; have y1 := KRb.frozen 1; have y2 := KRb.frozen 2; have y3 := KRb.frozen 3; have y4 := KRb.frozen 4
                clear KRb
                go_wp2_with fail
                refine name_postO fun W4 hW4 => ?_
                have C4 : Chg [w.heap.size + 1] w4 W4 := by subst hW4; (repeat' (first | with_reducible exact Chg.refl _ _ | with_reducible refine Chg.alloc ?_ _ | with_reducible refine Chg.drew ?_ | with_reducible refine Chg.drewN ?_ _ | with_reducible refine Chg.set_ ?_ _ _ (by first | (simp; done) | (simp; omega) | omega)))
                have KR4 : Blk W4 (w.heap.size + 1) 26 (vCells 0 0 ⟨#[]⟩ none 0 0 none 0 0) := by subst hW4; (repeat' (first | with_reducible exact HRb.out | with_reducible exact Blk.new_ (by first | rfl | (simp; done) | (simp; omega)) | with_reducible refine Blk.alloc_ ?_ | with_reducible refine Blk.drew ?_ | with_reducible refine Blk.drewN ?_ _ | with_reducible refine Blk.far_ ?_ (by first | (simp; done) | (simp; omega) | omega) | with_reducible apply Blk.set_eq | rfl))
                clear hW4 q0 q1 q2 q3 q4 y0 y1 y2 y3 y4
                have k0 := KR4.cell 0; have k1 := KR4.cell 1; have k2 := KR4.cell 2; have k3 := KR4.cell 3; have k4 := KR4.cell 4; simp at k0 k1 k2 k3 k4
                clear KR4
                have hbel := (((HCb.out.mono (S' := [w.heap.size + 1]) (by simp)).trans C4 (by simp)).mono (S' := []) (by intro x hx; simp at hx; first | (subst hx; exact .inr (by omega)) | (rcases hx with rfl | rfl <;> exact .inr (by omega)))).bel
                (try simp only [Exit.inBlock, Exit.then])
                refine bodyPost_ret (v := .tuple #[.agg (vCells 0 0 ⟨#[]⟩ none 0 0 none 0 0), .int .i64 9]) ?_ rfl (by rw [hq.out, HDR.out, from_err HSU.out]; exact ⟨_, _, _, _, rfl, hbel⟩)
                simp [results, Tryz.results103, go_sem, k0, k1, k2, k3, k4]
            · have z0 : nmB.toList = x.nm := by rw [← HNM.out, ByteArray.toList_eq]
              have z1 : nmB.toList.isEmpty = false := by rw [z0]; cases hx : x.nm with | nil => exact absurd hx hnm | cons a b => rfl
              have z2 : (nmB.toList == []) = false := by rw [z0]; simpa using hnm
              have hst0 : stepR envO x lst = callR x.nm ys := by rw [HST.out, if_pos hnm]
              clear z0
              have cC := hide (fun W (hW : Below w4.heap.size w4 W) => ogCall anyB lasts_any x.nm A5 cp4 ys W ((HR5.out.at_ (N := 0) FlatC.steady rfl (Nat.zero_le _)).on FlatC.steady ⟨hW.size, fun b hb _ => ⟨hW.block b hb, trivial⟩⟩) HGY.out)
              simp only [HNM.out, ← HYL.out] at cC
              rcases call_fine x.nm ys (fun y hy => (HGY.out y hy).2) with ⟨u, hu, gu0⟩ | ⟨E1, hu, hE1⟩
              · have gu : FineF u := ⟨call_flat x.nm ys (fun y hy => (HGY.out y hy).1) u (by rw [hu]), gu0⟩
                have HSU : Hid (stepR envO x lst = (some u, 0)) := hide (by rw [hst0, hu])
                simp only [hu] at cC
                have cC1 : Hid (∀ W, Below w4.heap.size w4 W → Calls Tryz.prog 123 #[.string nmB, .slice A5 m cp4] W (ToldF W u.k u.i ⟨u.s.toArray⟩ 0)) := cC
                clear cC hst0 hnm hu
                go_wp2_with fail
                refine (cC1.out _ (Below.refl _ _)).mono ?_
                rintro e' w6 ⟨P, C, P2, C2, rfl, hb6⟩
                have HP6 := hide (HP5.out.bel hb6)
                clear hb6 s0 s1 lC
                obtain ⟨pw, cw, pw2, cw2, KV⟩ := HP6.out.val
                obtain ⟨ek, hek⟩ : ∃ q, dK lst = q := ⟨_, rfl⟩
                obtain ⟨ei, hei⟩ : ∃ q, dI lst = q := ⟨_, rfl⟩
                obtain ⟨es9, hes⟩ : ∃ q, dS lst = q := ⟨_, rfl⟩
                rw [hek, hei, hes] at KV
                have HV5 := hide KV
                have lV := KV.lt
                have v0 := KV.cell 0; have v1 := KV.cell 1; have v2 := KV.cell 2; have v3 := KV.cell 3; have v4 := KV.cell 4; simp at v0 v1 v2 v3 v4
                have z0 := KV.frozen 0; have z1 := KV.frozen 1; have z2 := KV.frozen 2; have z3 := KV.frozen 3; have z4 := KV.frozen 4
                clear KV hek hei hes
                have hlt := HLT.out
                go_wp2_with fail
                go_roundw
                case rel =>
                  refine ⟨j + 1, some u, by go_num, by omega, hide (by rw [hq.out, HDR.out, from_step HSU.out]), hide (by simp), ?_⟩
                  refine name_it (C := fun W4 => Hid (PipeO w W4 (some u))) fun W4 hW4 => ?_
                  have C4 : Chg [w.heap.size + 2] w6 W4 := by subst hW4; (repeat' (first | with_reducible exact Chg.refl _ _ | with_reducible refine Chg.alloc ?_ _ | with_reducible refine Chg.drew ?_ | with_reducible refine Chg.drewN ?_ _ | with_reducible refine Chg.set_ ?_ _ _ (by first | (simp; done) | (simp; omega) | omega)))
                  have KV4 : Blk W4 (w.heap.size + 2) 26 (vCells u.k u.i ⟨u.s.toArray⟩ P 0 C P2 0 C2) := by subst hW4; (repeat' (first | with_reducible exact HV5.out | with_reducible exact Blk.new_ (by first | rfl | (simp; done) | (simp; omega)) | with_reducible refine Blk.alloc_ ?_ | with_reducible refine Blk.drew ?_ | with_reducible refine Blk.drewN ?_ _ | with_reducible refine Blk.far_ ?_ (by first | (simp; done) | (simp; omega) | omega) | with_reducible apply Blk.set_eq | rfl))
                  clear hW4
                  refine hide ⟨?_, HP6.out.env.chg C4 (by simp), HP6.out.res.chg C4 (by simp), ⟨P, C, P2, C2, KV4⟩, ?_⟩
                  · exact ((HP6.out.chg.mono (S' := [w.heap.size + 2]) (by simp)).trans C4 (by simp)).mono (by intro x hx; simp at hx; subst hx; exact .inr (by omega))
                  · intro y hy
                    injection hy with hy
                    subst hy
                    exact gu
                case measure => simp [intOf]; omega
              · have eE : (E1 == 0) = false := by simpa using hE1
                have HSU : Hid (stepR envO x lst = (none, E1)) := hide (by rw [hst0, hu])
                simp only [hu] at cC
                have cC1 : Hid (∀ W, Below w4.heap.size w4 W → Calls Tryz.prog 123 #[.string nmB, .slice A5 m cp4] W (ToldF W 0 0 ⟨#[]⟩ E1)) := cC
                clear cC hst0 hnm hu
                go_wp2_with fail
                refine (cC1.out _ (Below.refl _ _)).mono ?_
                rintro e' w6 ⟨P, C, P2, C2, rfl, hb6⟩
                have HP6 := hide (HP5.out.bel hb6)
                clear hb6 s0 s1 lC hE1
                obtain ⟨pw, cw, pw2, cw2, KV⟩ := HP6.out.val
                obtain ⟨ek, hek⟩ : ∃ q, dK lst = q := ⟨_, rfl⟩
                obtain ⟨ei, hei⟩ : ∃ q, dI lst = q := ⟨_, rfl⟩
                obtain ⟨es9, hes⟩ : ∃ q, dS lst = q := ⟨_, rfl⟩
                rw [hek, hei, hes] at KV
                have HV5 := hide KV
                have lV := KV.lt
                have v0 := KV.cell 0; have v1 := KV.cell 1; have v2 := KV.cell 2; have v3 := KV.cell 3; have v4 := KV.cell 4; simp at v0 v1 v2 v3 v4
                have z0 := KV.frozen 0; have z1 := KV.frozen 1; have z2 := KV.frozen 2; have z3 := KV.frozen 3; have z4 := KV.frozen 4
                clear KV hek hei hes
                have HRb := hide HP6.out.res
                have HCb := hide HP6.out.chg
                have KRb := HRb.out
                have lR := KRb.lt
                have q0 := KRb.cell 0; have q1 := KRb.cell 1; have q2 := KRb.cell 2; have q3 := KRb.cell 3; have q4 := KRb.cell 4; simp at q0 q1 q2 q3 q4
                have y0 := KRb.frozen 0; have y1 := KRb.frozen 1; have y2 := KRb.frozen 2; have y3 := KRb.frozen 3; have y4 := KRb.frozen 4
                clear KRb
                go_wp2_with fail
                refine name_postO fun W4 hW4 => ?_
                have C4 : Chg [w.heap.size + 1, w.heap.size + 2] w6 W4 := by subst hW4; (repeat' (first | with_reducible exact Chg.refl _ _ | with_reducible refine Chg.alloc ?_ _ | with_reducible refine Chg.drew ?_ | with_reducible refine Chg.drewN ?_ _ | with_reducible refine Chg.set_ ?_ _ _ (by first | (simp; done) | (simp; omega) | omega)))
                have KR4 : Blk W4 (w.heap.size + 1) 26 (vCells 0 0 ⟨#[]⟩ none 0 0 none 0 0) := by subst hW4; (repeat' (first | with_reducible exact HRb.out | with_reducible exact Blk.new_ (by first | rfl | (simp; done) | (simp; omega)) | with_reducible refine Blk.alloc_ ?_ | with_reducible refine Blk.drew ?_ | with_reducible refine Blk.drewN ?_ _ | with_reducible refine Blk.far_ ?_ (by first | (simp; done) | (simp; omega) | omega) | with_reducible apply Blk.set_eq | rfl))
                clear hW4 q0 q1 q2 q3 q4 y0 y1 y2 y3 y4
                have k0 := KR4.cell 0; have k1 := KR4.cell 1; have k2 := KR4.cell 2; have k3 := KR4.cell 3; have k4 := KR4.cell 4; simp at k0 k1 k2 k3 k4
                clear KR4
                have hbel := (((HCb.out.mono (S' := [w.heap.size + 1, w.heap.size + 2]) (by simp)).trans C4 (by simp)).mono (S' := []) (by intro x hx; simp at hx; first | (subst hx; exact .inr (by omega)) | (rcases hx with rfl | rfl <;> exact .inr (by omega)))).bel
                (try simp only [Exit.inBlock, Exit.then])
                refine bodyPost_ret (v := .tuple #[.agg (vCells 0 0 ⟨#[]⟩ none 0 0 none 0 0), .int .i64 E1]) ?_ rfl (by rw [hq.out, HDR.out, from_err HSU.out]; exact ⟨_, _, _, _, rfl, hbel⟩)
                simp [results, Tryz.results103, go_sem, k0, k1, k2, k3, k4]
    · obtain rfl : j = l.length := by omega
      have hif : decide ((l.length : Int) < (l.length : Int)) = false := by simp
      obtain ⟨z, hlz⟩ : ∃ z, lst = some z := by
        cases lst with
        | none => exact absurd (hj0.out.2 rfl) (by omega)
        | some z => exact ⟨z, rfl⟩
      have hte := hide (show pipeFrom envO l none = (some z, 0) by rw [hq.out, List.drop_length, hlz]; rfl)
      obtain ⟨pv, cv, pv2, cv2, KV⟩ := hI.out.val
      rw [hlz] at KV
      have KV3 : Blk wo (w.heap.size + 2) 26 (vCells z.k z.i ⟨z.s.toArray⟩ pv 0 cv pv2 0 cv2) := KV
      have lV := KV3.lt
      have v0 := KV3.cell 0; have v1 := KV3.cell 1; have v2 := KV3.cell 2; have v3 := KV3.cell 3; have v4 := KV3.cell 4; simp at v0 v1 v2 v3 v4
      have KR3 := hI.out.res
      have HR3 := hide KR3
      have lR := KR3.lt
      have q0 := KR3.cell 0; have q1 := KR3.cell 1; have q2 := KR3.cell 2; have q3 := KR3.cell 3; have q4 := KR3.cell 4; simp at q0 q1 q2 q3 q4
      have y0 := KR3.frozen 0; have y1 := KR3.frozen 1; have y2 := KR3.frozen 2; have y3 := KR3.frozen 3; have y4 := KR3.frozen 4
      have HC := hide hI.out.chg
      clear KR3 KV3 KV hlt hjl hlz hq hj0
      go_wp2_with fail
      refine name_postO fun W4 hW4 => ?_
      have C4 : Chg [w.heap.size + 1] wo W4 := by subst hW4; (repeat' (first | with_reducible exact Chg.refl _ _ | with_reducible refine Chg.alloc ?_ _ | with_reducible refine Chg.drew ?_ | with_reducible refine Chg.drewN ?_ _ | with_reducible refine Chg.set_ ?_ _ _ (by first | (simp; done) | (simp; omega) | omega)))
      have KR4 : Blk W4 (w.heap.size + 1) 26 (vCells z.k z.i ⟨z.s.toArray⟩ pv 0 cv pv2 0 cv2) := by subst hW4; (repeat' (first | with_reducible exact HR3.out | with_reducible exact Blk.new_ (by first | rfl | (simp; done) | (simp; omega)) | with_reducible refine Blk.alloc_ ?_ | with_reducible refine Blk.drew ?_ | with_reducible refine Blk.drewN ?_ _ | with_reducible refine Blk.far_ ?_ (by first | (simp; done) | (simp; omega) | omega) | with_reducible apply Blk.set_eq | rfl))
      clear hW4 q0 q1 q2 q3 q4 y0 y1 y2 y3 y4 v0 v1 v2 v3 v4
      have k0 := KR4.cell 0; have k1 := KR4.cell 1; have k2 := KR4.cell 2; have k3 := KR4.cell 3; have k4 := KR4.cell 4; simp at k0 k1 k2 k3 k4
      clear KR4
      have hbel := (((HC.out.mono (S' := [w.heap.size + 1]) (by simp)).trans C4 (by simp)).mono (S' := []) (by intro x hx; simp at hx; subst hx; exact .inr (by omega))).bel
      (try simp only [Exit.inBlock, Exit.then])
      refine bodyPost_ret (v := .tuple #[.agg (vCells z.k z.i ⟨z.s.toArray⟩ pv 0 cv pv2 0 cv2), .int .i64 0]) ?_ rfl (by rw [hte.out]; exact ⟨_, _, _, _, rfl, hbel⟩)
      simp [results, Tryz.results103, go_sem, k0, k1, k2, k3, k4]
end Go.Proofs.YtnepogddjinpoaaGreatDoor
