/-
  The example's action, told (fold.value, told).
-/
import Derived.Test.YtnepogddjinpoaaGreatDoorEyPipe2
import Derived.Test.YtnepogddjinpoaaGreatDoorEyEsc
namespace Go.Proofs.YtnepogddjinpoaaGreatDoor
open Go.RowKit
set_option linter.unusedVariables false
set_option linter.unusedSimpArgs false

theorem const_b : constP eyP = true := by decide
theorem mass_b : sumBy massC eyP ≤ 1048576 := by
  have h : sumBy massC eyP = 3 := by decide
  rw [h]; omega
set_option maxHeartbeats 2000000 in
set_option maxRecDepth 100000 in
theorem value_b (U : World → Nat → Prop) (hU : Lasts U) (a : Option Addr) (c : Nat) (w : World) (h : AtR CallR 2 U w a eyP) : Calls Tryz.prog 88 #[.slice a 1 c] w fun e w' => e = .returned (.tuple #[bVal, .bool true]) ∧ Below w.heap.size w w' := by
  have cC : Hid (∀ W, Below w.heap.size w W → Calls Tryz.prog 7 #[.slice a 1 c] W fun e w' => e = .returned (.bool true) ∧ Below W.heap.size W w') := hide (fun W hb => by
    have h := constant_any U hU a c eyP W (h.on CallR.steady (hU.stays hb)) mass_b
    rw [const_b] at h
    exact h)
  have cP := hide (fun W (hb : Below w.heap.size w W) => pipe_b U a c W (h.on CallR.steady (hU.stays hb)))
  clear h
  go_enter Tryz.func88, Tryz.ntmps88
  go_wp2_with fail
  refine name_world fun W hW => ?_
  have C1 : Chg [] w W := by subst hW; (repeat' (first | with_reducible exact Chg.refl _ _ | with_reducible refine Chg.alloc ?_ _ | with_reducible refine Chg.drew ?_ | with_reducible refine Chg.drewN ?_ _ | with_reducible refine Chg.set_ ?_ _ _ (by first | (simp; done) | (simp; omega) | omega)))
  have K : Blk W w.heap.size 26 #[.int .i64 0, .int .i64 0, .string ⟨#[]⟩, .slice none 0 0, .slice none 0 0] := by subst hW; (repeat' (first | with_reducible exact Blk.new_ (by first | rfl | (simp; done) | (simp; omega)) | with_reducible refine Blk.alloc_ ?_ | with_reducible refine Blk.drew ?_ | with_reducible refine Blk.drewN ?_ _ | with_reducible refine Blk.far_ ?_ (by first | (simp; done) | (simp; omega) | omega) | with_reducible apply Blk.set_eq | rfl))
  clear hW
  refine (cC.out W C1.bel).mono ?_
  rintro e w1 ⟨rfl, hb1⟩
  have C2 := C1.trans (Chg.of_below (S := []) hb1) (by simp)
  have K1 := K.chg (Chg.of_below (S := []) hb1) (by simp)
  clear K C1 hb1
  go_wp2_with fail
  refine (cP.out w1 C2.bel).mono ?_
  rintro e w2 ⟨rfl, hb2⟩
  have C3 := hide (C2.trans (Chg.of_below (S := []) hb2) (by simp))
  have K2 := K1.chg (Chg.of_below (S := []) hb2) (by simp)
  have HK := hide K2
  have k0 := K2.cell 0; have k1 := K2.cell 1; have k2 := K2.cell 2; have k3 := K2.cell 3; have k4 := K2.cell 4; simp at k0 k1 k2 k3 k4
  have z0 := K2.frozen 0; have z1 := K2.frozen 1; have z2 := K2.frozen 2; have z3 := K2.frozen 3; have z4 := K2.frozen 4
  have l2 := K2.lt
  clear K1 K2 C2 hb2
  go_wp2_with fail
  refine name_postO fun W hW => ?_
  have C4 : Chg [w.heap.size] w2 W := by subst hW; (repeat' (first | with_reducible exact Chg.refl _ _ | with_reducible refine Chg.alloc ?_ _ | with_reducible refine Chg.drew ?_ | with_reducible refine Chg.drewN ?_ _ | with_reducible refine Chg.set_ ?_ _ _ (by first | (simp; done) | (simp; omega) | omega)))
  have K3 : Blk W w.heap.size 26 #[.int .i64 4, .int .i64 0, .string bTxt, .slice none 0 0, .slice none 0 0] := by subst hW; (repeat' (first | with_reducible exact HK.out | with_reducible exact Blk.new_ (by first | rfl | (simp; done) | (simp; omega)) | with_reducible refine Blk.alloc_ ?_ | with_reducible refine Blk.drew ?_ | with_reducible refine Blk.drewN ?_ _ | with_reducible refine Blk.far_ ?_ (by first | (simp; done) | (simp; omega) | omega) | with_reducible apply Blk.set_eq | rfl))
  clear k0 k1 k2 k3 k4 z0 z1 z2 z3 z4
  have k0 := K3.cell 0; have k1 := K3.cell 1; have k2 := K3.cell 2; have k3 := K3.cell 3; have k4 := K3.cell 4; simp at k0 k1 k2 k3 k4
  clear hW K3
  simp [bodyPost, results, Tryz.results88, go_sem, k0, k1, k2, k3, k4]
  exact ((C3.out.mono (S' := [w.heap.size]) (by simp)).trans C4 (by simp) |>.mono (S' := []) (by intro x hx; simp at hx; subst hx; exact .inr (Nat.le_refl _))).bel
set_option maxHeartbeats 2000000 in
set_option maxRecDepth 100000 in
theorem told_node (U : World → Nat → Prop) (hU : Lasts U) (s nm : ByteArray) (a1 a2 a3 : Option Addr) (c1 n2 c2 n3 c3 : Nat) (pos unit : Int) (w : World) (h : AtR CallR 2 U w a1 eyP) (hT : Lib.Utf8Tabs 1 2 w) :
    Calls Tryz.prog 65 #[.agg ⟨nodeCells 2 s nm a1 1 c1 a2 n2 c2 a3 n3 c3 pos 1 unit⟩] w fun e w' => ∃ g, e = .returned (.tuple #[.slice (some ⟨g, 0, none⟩) 1 1, .bool true]) ∧ w.heap.size ≤ g ∧ AtB w' g (nodeCells 1 bTxt ⟨#[]⟩ none 0 0 none 0 0 none 0 0 pos 0 0) ∧ Below w.heap.size w w' := by
  have cV := hide (fun W (hb : Below w.heap.size w W) => value_b U hU a1 c1 W (h.on CallR.steady (hU.stays hb)))
  have cA := hide (fun W (hb : Below w.heap.size w W) => apply_b W (Utf8Tabs_below hT hb))
  have eb : ((⟨#[98]⟩ : ByteArray) == ⟨#[]⟩) = false := by decide +kernel
  clear h hT
  go_enter Tryz.func65, Tryz.ntmps65
  go_wp2_with fail
  refine name_world fun W hW => ?_
  have C1 : Chg [] w W := by subst hW; (repeat' (first | with_reducible exact Chg.refl _ _ | with_reducible refine Chg.alloc ?_ _ | with_reducible refine Chg.drew ?_ | with_reducible refine Chg.drewN ?_ _ | with_reducible refine Chg.set_ ?_ _ _ (by first | (simp; done) | (simp; omega) | omega)))
  have K : Blk W w.heap.size 61 ⟨nodeCells 2 s nm a1 1 c1 a2 n2 c2 a3 n3 c3 pos 1 unit⟩ := by subst hW; (repeat' (first | with_reducible exact Blk.new_ (by first | rfl | (simp; done) | (simp; omega)) | with_reducible refine Blk.alloc_ ?_ | with_reducible refine Blk.drew ?_ | with_reducible refine Blk.drewN ?_ _ | with_reducible refine Blk.far_ ?_ (by first | (simp; done) | (simp; omega) | omega) | with_reducible apply Blk.set_eq | rfl))
  clear hW
  refine (cV.out W C1.bel).mono ?_
  rintro e w1 ⟨rfl, hb1⟩
  have C2 := C1.trans (Chg.of_below (S := []) hb1) (by simp)
  have K1 := K.chg (Chg.of_below (S := []) hb1) (by simp)
  have k7 := K1.cell 7; simp at k7
  have l1 := K1.lt
  clear K C1 hb1
  go_wp2_with fail
  refine name_world fun W hW => ?_
  have C3 : Chg [] w1 W := by subst hW; (repeat' (first | with_reducible exact Chg.refl _ _ | with_reducible refine Chg.alloc ?_ _ | with_reducible refine Chg.drew ?_ | with_reducible refine Chg.drewN ?_ _ | with_reducible refine Chg.set_ ?_ _ _ (by first | (simp; done) | (simp; omega) | omega)))
  have C4 := C2.trans C3 (by simp)
  have K2 := K1.chg C3 (by simp)
  clear hW K1 C2 C3 k7 l1
  refine (cA.out W C4.bel).mono ?_
  rintro e w2 ⟨rfl, hb2⟩
  have C5 := C4.trans (Chg.of_below (S := []) hb2) (by simp)
  have K3 := K2.chg (Chg.of_below (S := []) hb2) (by simp)
  have k6 := K3.cell 6; simp at k6
  have l3 := K3.lt
  clear K2 C4 hb2
  go_wp2_with fail
  go_ret2
  refine ⟨_, rfl, ?_, ?_, ?_⟩
  · exact C5.size
  · exact AtB.of_blk (t := 61) (cs := nodeCells 1 bTxt ⟨#[]⟩ none 0 0 none 0 0 none 0 0 pos 0 0) (by (repeat' (first | with_reducible exact Blk.new_ (by first | rfl | (simp; done) | (simp; omega)) | with_reducible refine Blk.alloc_ ?_ | with_reducible refine Blk.drew ?_ | with_reducible refine Blk.drewN ?_ _ | with_reducible refine Blk.far_ ?_ (by first | (simp; done) | (simp; omega) | omega) | with_reducible apply Blk.set_eq | rfl)))
  · exact (Chg.alloc C5 _).bel
end Go.Proofs.YtnepogddjinpoaaGreatDoor
