/-
  PLAIN LAWS of many texts, in one.
-/
import Derived.Test.YtnepogddjinpoaaGreatDoorIdxA
import Derived.Test.YtnepogddjinpoaaGreatDoorM1
import Derived.Test.YtnepogddjinpoaaGreatDoorOwnNode
namespace Go.Proofs.YtnepogddjinpoaaGreatDoor
open Go.RowKit
set_option linter.unusedVariables false
set_option linter.unusedSimpArgs false

def eyA : ArgD := ⟨4, [], [], 0, [98]⟩
def eyC : CallD := ⟨[], [eyA]⟩
def eyP : List CallD := [eyC]
theorem pred_nil {α : Type} (P : Program) (g : Nat) (lb : Array Value) (R : Rel α) (U : World → Nat → Prop) (p : α → Bool) (w : World) : PredA P g lb R U p [] w := fun _ _ _ _ h _ => absurd h (by simp)
theorem lasts_any : Lasts anyB := fun _ _ _ _ _ h => h
set_option maxHeartbeats 2000000 in
set_option maxRecDepth 100000 in
theorem argMay_ey (U : World → Nat → Prop) (hU : Lasts U) (vs : List Value) (w : World) (h : ArgR U w vs eyA) : Calls Tryz.prog 101 #[.agg ⟨vs⟩] w fun e w' => e = .returned (.bool true) ∧ Below w.heap.size w w' := by
  obtain ⟨a, c, rfl⟩ : ∃ a c, vs = [.int .i64 4, .string ⟨#[]⟩, .slice a 0 c, .int .i64 0, .string ⟨#[98]⟩] := by obtain ⟨a, c, h1, _⟩ := h; exact ⟨a, c, h1⟩
  have cC : Hid (∀ W : World, Calls Tryz.prog 119 #[.slice a 0 c, .func (.func 120) #[] #[]] W fun e w' => e = .returned (.bool false) ∧ Below W.heap.size W w') := hide (fun (W : World) => containsFuncS 120 #[] (fun _ _ => rfl) anyB lasts_any (fun _ => false) [] a c W (pred_nil _ _ _ _ _ _ _) AtR.nil (by simp))
  clear h
  go_enter Tryz.func101, Tryz.ntmps101
  go_wp2_with fail
  refine name_world fun W hW => ?_
  have C1 : Chg [] w W := by subst hW; (repeat' (first | with_reducible exact Chg.refl _ _ | with_reducible refine Chg.alloc ?_ _ | with_reducible refine Chg.drew ?_ | with_reducible refine Chg.drewN ?_ _ | with_reducible refine Chg.set_ ?_ _ _ (by first | (simp; done) | (simp; omega) | omega)))
  have K : Blk W w.heap.size 35 #[.int .i64 4, .string ⟨#[]⟩, .slice a 0 c, .int .i64 0, .string ⟨#[98]⟩] := by subst hW; (repeat' (first | with_reducible exact Blk.new_ (by first | rfl | (simp; done) | (simp; omega)) | with_reducible refine Blk.alloc_ ?_ | with_reducible refine Blk.drew ?_ | with_reducible refine Blk.drewN ?_ _ | with_reducible refine Blk.far_ ?_ (by first | (simp; done) | (simp; omega) | omega) | with_reducible apply Blk.set_eq | rfl))
  clear hW
  refine (cC.out W).mono ?_
  rintro e w1 ⟨rfl, hb1⟩
  have C2 := hide (C1.trans (Chg.of_below (S := []) hb1) (by simp))
  have K1 := K.chg (Chg.of_below (S := []) hb1) (by simp)
  have k0 := K1.cell 0; have k1 := K1.cell 1; have k2 := K1.cell 2; have k3 := K1.cell 3; have k4 := K1.cell 4; simp at k0 k1 k2 k3 k4
  clear K K1 hb1 C1
  simp only [List.append, List.cons_append, List.nil_append] at *
  have e0 : ((⟨#[]⟩ : ByteArray) == ⟨#[]⟩) = true := by decide +kernel
  have e9 : ((⟨#[98]⟩ : ByteArray).size) = 1 := by decide +kernel
  go_wp2_with fail
  go_ret
  exact ⟨rfl, C2.out.bel⟩
end Go.Proofs.YtnepogddjinpoaaGreatDoor

namespace Go.Proofs.YtnepogddjinpoaaGreatDoor
open Go.RowKit
set_option linter.unusedVariables false
set_option linter.unusedSimpArgs false

abbrev bTxt : ByteArray := ⟨#[98]⟩
abbrev bVal : Value := .agg #[.int .i64 4, .int .i64 0, .string bTxt, .slice none 0 0, .slice none 0 0]
theorem b_size : bTxt.size = 1 := by decide +kernel
set_option maxHeartbeats 1000000 in
set_option maxRecDepth 100000 in
theorem used_b (w : World) : Calls Tryz.prog 162 #[bVal] w fun e w' => e = .returned (.bool true) ∧ Below w.heap.size w w' := by
  go_enter Tryz.func162, Tryz.ntmps162
  go_wp2_with fail
  go_ret
  refine ⟨rfl, ?_⟩
  refine name_it (C := fun W => Below w.heap.size w W) fun W hW => ?_
  have C1 : Chg [] w W := by subst hW; (repeat' (first | with_reducible exact Chg.refl _ _ | with_reducible refine Chg.alloc ?_ _ | with_reducible refine Chg.drew ?_ | with_reducible refine Chg.drewN ?_ _ | with_reducible refine Chg.set_ ?_ _ _ (by first | (simp; done) | (simp; omega) | omega)))
  exact C1.bel
set_option maxRecDepth 100000 in
theorem keys_b (w : World) : Calls Tryz.prog 163 #[bVal] w fun e w' => e = .returned (.bool true) ∧ Below w.heap.size w w' := by
  go_enter Tryz.func163, Tryz.ntmps163
  go_wp2_with fail
  go_ret
  refine ⟨rfl, ?_⟩
  refine name_it (C := fun W => Below w.heap.size w W) fun W hW => ?_
  have C1 : Chg [] w W := by subst hW; (repeat' (first | with_reducible exact Chg.refl _ _ | with_reducible refine Chg.alloc ?_ _ | with_reducible refine Chg.drew ?_ | with_reducible refine Chg.drewN ?_ _ | with_reducible refine Chg.set_ ?_ _ _ (by first | (simp; done) | (simp; omega) | omega)))
  exact C1.bel
set_option maxHeartbeats 1000000 in
set_option maxRecDepth 100000 in
theorem nested_b (w : World) : Calls Tryz.prog 124 #[bVal, .int .i64 16] w fun e w' => e = .returned (.int .i64 0) ∧ Below w.heap.size w w' := by
  have e9 := b_size
  go_enter Tryz.func124, Tryz.ntmps124
  go_wp2_with fail
  refine name_world fun W hW => ?_
  have C1 : Chg [] w W := by subst hW; (repeat' (first | with_reducible exact Chg.refl _ _ | with_reducible refine Chg.alloc ?_ _ | with_reducible refine Chg.drew ?_ | with_reducible refine Chg.drewN ?_ _ | with_reducible refine Chg.set_ ?_ _ _ (by first | (simp; done) | (simp; omega) | omega)))
  have K : Blk W w.heap.size 26 #[.int .i64 4, .int .i64 0, .string bTxt, .slice none 0 0, .slice none 0 0] := by subst hW; (repeat' (first | with_reducible exact Blk.new_ (by first | rfl | (simp; done) | (simp; omega)) | with_reducible refine Blk.alloc_ ?_ | with_reducible refine Blk.drew ?_ | with_reducible refine Blk.drewN ?_ _ | with_reducible refine Blk.far_ ?_ (by first | (simp; done) | (simp; omega) | omega) | with_reducible apply Blk.set_eq | rfl))
  clear hW
  refine (used_b W).mono ?_
  rintro e w1 ⟨rfl, hb1⟩
  have C2 := C1.trans (Chg.of_below (S := []) hb1) (by simp)
  have K1 := K.chg (Chg.of_below (S := []) hb1) (by simp)
  have k0 := K1.cell 0; have k1 := K1.cell 1; have k2 := K1.cell 2; have k3 := K1.cell 3; have k4 := K1.cell 4; simp at k0 k1 k2 k3 k4
  clear K hb1 C1
  go_wp2_with fail
  refine (keys_b w1).mono ?_
  rintro e w2 ⟨rfl, hb2⟩
  have C3 := hide (C2.trans (Chg.of_below (S := []) hb2) (by simp))
  have K2 := K1.chg (Chg.of_below (S := []) hb2) (by simp)
  clear k0 k1 k2 k3 k4 K1 C2 hb2
  have m0 := K2.cell 0; have m1 := K2.cell 1; have m2 := K2.cell 2; have m3 := K2.cell 3; have m4 := K2.cell 4; simp at m0 m1 m2 m3 m4
  clear K2
  go_wp2_with fail
  refine wp_loop_rounds 1 ?_
  rw [rounds_succ]
  go_wp2_with fail
  go_ret
  exact ⟨rfl, C3.out.bel⟩
set_option maxRecDepth 100000 in
theorem check_b (w : World) : Calls Tryz.prog 104 #[bVal] w fun e w' => e = .returned (.int .i64 0) ∧ Below w.heap.size w w' := by
  go_enter Tryz.func104, Tryz.ntmps104
  go_wp2_with fail
  refine name_world fun W hW => ?_
  have C1 : Chg [] w W := by subst hW; (repeat' (first | with_reducible exact Chg.refl _ _ | with_reducible refine Chg.alloc ?_ _ | with_reducible refine Chg.drew ?_ | with_reducible refine Chg.drewN ?_ _ | with_reducible refine Chg.set_ ?_ _ _ (by first | (simp; done) | (simp; omega) | omega)))
  clear hW
  refine (nested_b W).mono ?_
  rintro e w1 ⟨rfl, hb1⟩
  have C2 := hide (C1.trans (Chg.of_below (S := []) hb1) (by simp))
  clear hb1 C1
  go_wp2_with fail
  go_ret
  exact ⟨rfl, C2.out.bel⟩
theorem safe_b (w : World) : Calls Tryz.prog 105 #[.int .i64 1, .int .i64 4] w fun e w' => e = .returned (.bool false) ∧ w = w' := by
  go_enter Tryz.func105, Tryz.ntmps105
  go_wp2_with fail
  go_ret
  exact ⟨rfl, rfl⟩
set_option maxRecDepth 100000 in
theorem print_b (w : World) : Calls Tryz.prog 138 #[bVal] w fun e w' => e = .returned (.string bTxt) ∧ Below w.heap.size w w' := by
  go_enter Tryz.func138, Tryz.ntmps138
  go_wp2_with fail
  go_ret
  refine ⟨rfl, ?_⟩
  refine name_it (C := fun W => Below w.heap.size w W) fun W hW => ?_
  have C1 : Chg [] w W := by subst hW; (repeat' (first | with_reducible exact Chg.refl _ _ | with_reducible refine Chg.alloc ?_ _ | with_reducible refine Chg.drew ?_ | with_reducible refine Chg.drewN ?_ _ | with_reducible refine Chg.set_ ?_ _ _ (by first | (simp; done) | (simp; omega) | omega)))
  exact C1.bel
set_option maxRecDepth 100000 in
theorem told_b (w : World) : Calls Tryz.prog 109 #[bVal] w fun e w' => e = .returned (.string bTxt) ∧ Below w.heap.size w w' := by
  go_enter Tryz.func109, Tryz.ntmps109
  go_wp2_with fail
  refine name_world fun W hW => ?_
  have C1 : Chg [] w W := by subst hW; (repeat' (first | with_reducible exact Chg.refl _ _ | with_reducible refine Chg.alloc ?_ _ | with_reducible refine Chg.drew ?_ | with_reducible refine Chg.drewN ?_ _ | with_reducible refine Chg.set_ ?_ _ _ (by first | (simp; done) | (simp; omega) | omega)))
  clear hW
  refine (print_b W).mono ?_
  rintro e w1 ⟨rfl, hb1⟩
  have C2 := hide (C1.trans (Chg.of_below (S := []) hb1) (by simp))
  clear hb1 C1
  go_wp2_with fail
  go_ret
  exact ⟨rfl, C2.out.bel⟩
end Go.Proofs.YtnepogddjinpoaaGreatDoor

namespace Go.Proofs.YtnepogddjinpoaaGreatDoor
open Go.RowKit
set_option linter.unusedVariables false
set_option linter.unusedSimpArgs false

abbrev envZ : Value := .agg #[.int .i64 0, .int .i64 0, .string ⟨#[]⟩, .slice none 0 0, .slice none 0 0, .int .i64 0, .int .i64 0, .string ⟨#[]⟩, .slice none 0 0, .slice none 0 0, .slice none 0 0]
theorem text_b (w : World) : Calls Tryz.prog 155 #[.string bTxt] w fun e w' => e = .returned bVal ∧ Below w.heap.size w w' := by
  go_enter Tryz.func155, Tryz.ntmps155
  go_wp2_with fail
  refine name_postO fun W hW => ?_
  have C1 : Chg [] w W := by subst hW; (repeat' (first | with_reducible exact Chg.refl _ _ | with_reducible refine Chg.alloc ?_ _ | with_reducible refine Chg.drew ?_ | with_reducible refine Chg.drewN ?_ _ | with_reducible refine Chg.set_ ?_ _ _ (by first | (simp; done) | (simp; omega) | omega)))
  have K : Blk W w.heap.size 26 #[.int .i64 4, .int .i64 0, .string bTxt, .slice none 0 0, .slice none 0 0] := by subst hW; (repeat' (first | with_reducible exact Blk.new_ (by first | rfl | (simp; done) | (simp; omega)) | with_reducible refine Blk.alloc_ ?_ | with_reducible refine Blk.drew ?_ | with_reducible refine Blk.drewN ?_ _ | with_reducible refine Blk.far_ ?_ (by first | (simp; done) | (simp; omega) | omega) | with_reducible apply Blk.set_eq | rfl))
  have k0 := K.cell 0; have k1 := K.cell 1; have k2 := K.cell 2; have k3 := K.cell 3; have k4 := K.cell 4; simp at k0 k1 k2 k3 k4
  clear hW K
  simp [bodyPost, results, Tryz.results155, go_sem, k0, k1, k2, k3, k4]
  exact C1.bel
set_option maxHeartbeats 2000000 in
set_option maxRecDepth 100000 in
theorem arg_b (a : Option Addr) (c : Nat) (w : World) : Calls Tryz.prog 122 #[envZ, .agg #[.int .i64 4, .string ⟨#[]⟩, .slice a 0 c, .int .i64 0, .string bTxt]] w fun e w' => e = .returned (.tuple #[bVal, .int .i64 0]) ∧ Below w.heap.size w w' := by
  go_enter Tryz.func122, Tryz.ntmps122
  go_wp2_with fail
  refine name_world fun W hW => ?_
  have C1 : Chg [] w W := by subst hW; (repeat' (first | with_reducible exact Chg.refl _ _ | with_reducible refine Chg.alloc ?_ _ | with_reducible refine Chg.drew ?_ | with_reducible refine Chg.drewN ?_ _ | with_reducible refine Chg.set_ ?_ _ _ (by first | (simp; done) | (simp; omega) | omega)))
  have K : Blk W (w.heap.size + 2) 26 #[.int .i64 0, .int .i64 0, .string ⟨#[]⟩, .slice none 0 0, .slice none 0 0] := by subst hW; (repeat' (first | with_reducible exact Blk.new_ (by first | rfl | (simp; done) | (simp; omega)) | with_reducible refine Blk.alloc_ ?_ | with_reducible refine Blk.drew ?_ | with_reducible refine Blk.drewN ?_ _ | with_reducible refine Blk.far_ ?_ (by first | (simp; done) | (simp; omega) | omega) | with_reducible apply Blk.set_eq | rfl))
  clear hW
  refine (text_b W).mono ?_
  rintro e w1 ⟨rfl, hb1⟩
  have C2 := hide (C1.trans (Chg.of_below (S := []) hb1) (by simp))
  have K1 := K.chg (Chg.of_below (S := []) hb1) (by simp)
  have HK1 := hide K1
  have k0 := K1.cell 0; have k1 := K1.cell 1; have k2 := K1.cell 2; have k3 := K1.cell 3; have k4 := K1.cell 4; simp at k0 k1 k2 k3 k4
  have z0 := K1.frozen 0; have z1 := K1.frozen 1; have z2 := K1.frozen 2; have z3 := K1.frozen 3; have z4 := K1.frozen 4
  have l1 := K1.lt
  clear K K1 hb1 C1
  go_wp2_with fail
  refine name_postO fun W hW => ?_
  have C3 : Chg [w.heap.size + 2] w1 W := by subst hW; (repeat' (first | with_reducible exact Chg.refl _ _ | with_reducible refine Chg.alloc ?_ _ | with_reducible refine Chg.drew ?_ | with_reducible refine Chg.drewN ?_ _ | with_reducible refine Chg.set_ ?_ _ _ (by first | (simp; done) | (simp; omega) | omega)))
  have K2 : Blk W (w.heap.size + 2) 26 #[.int .i64 4, .int .i64 0, .string bTxt, .slice none 0 0, .slice none 0 0] := by subst hW; (repeat' (first | with_reducible exact HK1.out | with_reducible exact Blk.new_ (by first | rfl | (simp; done) | (simp; omega)) | with_reducible refine Blk.alloc_ ?_ | with_reducible refine Blk.drew ?_ | with_reducible refine Blk.drewN ?_ _ | with_reducible refine Blk.far_ ?_ (by first | (simp; done) | (simp; omega) | omega) | with_reducible apply Blk.set_eq | rfl))
  clear k0 k1 k2 k3 k4 z0 z1 z2 z3 z4
  have k0 := K2.cell 0; have k1 := K2.cell 1; have k2 := K2.cell 2; have k3 := K2.cell 3; have k4 := K2.cell 4; simp at k0 k1 k2 k3 k4
  clear hW K2
  simp [bodyPost, results, Tryz.results122, go_sem, k0, k1, k2, k3, k4]
  exact ((C2.out.mono (S' := [w.heap.size + 2]) (by simp)).trans C3 (by simp) |>.mono (S' := []) (by intro x hx; simp at hx; subst hx; exact .inr (by omega))).bel
end Go.Proofs.YtnepogddjinpoaaGreatDoor

namespace Go.Proofs.YtnepogddjinpoaaGreatDoor
open Go.RowKit
set_option linter.unusedVariables false
set_option linter.unusedSimpArgs false

set_option maxRecDepth 100000 in
theorem argMay1_ex (U : World → Nat → Prop) (hU : Lasts U) (vs : List Value) (w : World) (h : ArgR U w vs eyA) : Calls Tryz.prog 100 #[.agg ⟨vs⟩] w fun e w' => e = .returned (.bool false) ∧ Below w.heap.size w w' := by
  have HC := hide (fun W (hb : Below w.heap.size w W) => argMay_ey U hU vs W (ArgR.steady _ _ _ _ (hU.stays hb) _ _ h))
  obtain ⟨a, c, rfl⟩ : ∃ a c, vs = [.int .i64 4, .string ⟨#[]⟩, .slice a 0 c, .int .i64 0, .string ⟨#[98]⟩] := by obtain ⟨a, c, h1, _⟩ := h; exact ⟨a, c, h1⟩
  clear h
  go_enter Tryz.func100, Tryz.ntmps100
  go_wp2_with fail
  refine name_world fun W hW => ?_
  have C1 : Chg [] w W := by subst hW; (repeat' (first | with_reducible exact Chg.refl _ _ | with_reducible refine Chg.alloc ?_ _ | with_reducible refine Chg.drew ?_ | with_reducible refine Chg.drewN ?_ _ | with_reducible refine Chg.set_ ?_ _ _ (by first | (simp; done) | (simp; omega) | omega)))
  clear hW
  refine (HC.out W C1.bel).mono ?_
  rintro e w1 ⟨rfl, hb1⟩
  have C2 := hide (C1.trans (Chg.of_below (S := []) hb1) (by simp))
  clear hb1 C1
  go_wp2_with fail
  go_ret
  exact ⟨rfl, C2.out.bel⟩
set_option maxHeartbeats 2000000 in
set_option maxRecDepth 100000 in
theorem callMay_ex (U : World → Nat → Prop) (hU : Lasts U) (vs : List Value) (w : World) (h : CallR U w vs eyC) : Calls Tryz.prog 87 #[.agg ⟨vs⟩, .bool false] w fun e w' => e = .returned (.bool true) ∧ Below w.heap.size w w' := by
  obtain ⟨a, c, rfl, h2⟩ : ∃ a c, vs = [.string ⟨#[]⟩, .slice a 1 c] ∧ AtR ArgR 5 U w a [eyA] := h
  have cC : Hid (∀ W : World, Below w.heap.size w W → Calls Tryz.prog 22 #[.slice a 1 c, .func (.func 100) #[] #[]] W fun e w' => e = .returned (.bool false) ∧ Below W.heap.size W w') := hide (fun (W : World) (hb : Below w.heap.size w W) => containsFuncA 100 #[] (fun _ _ => rfl) U hU (fun _ => false) [eyA] a c W
    (fun W' vs x hb' hx hR => by
      obtain rfl : x = eyA := by simpa using hx
      refine (argMay1_ex U hU vs W' hR).mono (fun e w' h => h) |> fun h => ?_
      obtain ⟨a, c, rfl⟩ : ∃ a c, vs = [.int .i64 4, .string ⟨#[]⟩, .slice a 0 c, .int .i64 0, .string ⟨#[98]⟩] := by obtain ⟨a, c, h1, _⟩ := hR; exact ⟨a, c, h1⟩
      exact h) (h2.on ArgR.steady (hU.stays hb)) (by simp))
  clear h2
  go_enter Tryz.func87, Tryz.ntmps87
  go_wp2_with fail
  refine name_world fun W hW => ?_
  have C1 : Chg [] w W := by subst hW; (repeat' (first | with_reducible exact Chg.refl _ _ | with_reducible refine Chg.alloc ?_ _ | with_reducible refine Chg.drew ?_ | with_reducible refine Chg.drewN ?_ _ | with_reducible refine Chg.set_ ?_ _ _ (by first | (simp; done) | (simp; omega) | omega)))
  have K : Blk W w.heap.size 33 #[.string ⟨#[]⟩, .slice a 1 c] := by subst hW; (repeat' (first | with_reducible exact Blk.new_ (by first | rfl | (simp; done) | (simp; omega)) | with_reducible refine Blk.alloc_ ?_ | with_reducible refine Blk.drew ?_ | with_reducible refine Blk.drewN ?_ _ | with_reducible refine Blk.far_ ?_ (by first | (simp; done) | (simp; omega) | omega) | with_reducible apply Blk.set_eq | rfl))
  clear hW
  refine (cC.out W C1.bel).mono ?_
  rintro e w1 ⟨rfl, hb1⟩
  have C2 := hide (C1.trans (Chg.of_below (S := []) hb1) (by simp))
  have K1 := K.chg (Chg.of_below (S := []) hb1) (by simp)
  have k0 := K1.cell 0; have k1 := K1.cell 1; simp at k0 k1
  clear K K1 hb1 C1
  go_wp2_with fail
  go_ret
  exact ⟨rfl, C2.out.bel⟩
set_option maxHeartbeats 2000000 in
set_option maxRecDepth 100000 in
theorem pipeMay_ex (U : World → Nat → Prop) (hU : Lasts U) (a : Option Addr) (c : Nat) (w : World) (h : AtR CallR 2 U w a eyP) : Calls Tryz.prog 63 #[.slice a 1 c] w fun e w' => e = .returned (.int .i64 0) ∧ Below w.heap.size w w' := by
  obtain ⟨g, o, vs, rfl, hg, _, _, hcell, hN⟩ := h 0 eyC rfl
  have HC := hide (fun W (hb : Below w.heap.size w W) => callMay_ex U hU vs W (CallR.steady _ _ _ _ (hU.stays hb) _ _ hN))
  obtain ⟨a2, c2, rfl⟩ : ∃ a c, vs = [.string ⟨#[]⟩, .slice a 1 c] := by obtain ⟨a, c, h1, _⟩ := hN; exact ⟨a, c, h1⟩
  have f0 := hcell 0 _ rfl; have f1 := hcell 1 _ rfl
  simp only [Nat.add_zero, Nat.zero_mul] at f0 f1
  clear hcell hN h
  go_enter Tryz.func63, Tryz.ntmps63
  go_wp2_with fail
  refine wp_loop_rounds 2 ?_
  rw [rounds_succ]
  go_wp2_with fail
  refine name_world fun W hW => ?_
  have C1 : Chg [] w W := by subst hW; (repeat' (first | with_reducible exact Chg.refl _ _ | with_reducible refine Chg.alloc ?_ _ | with_reducible refine Chg.drew ?_ | with_reducible refine Chg.drewN ?_ _ | with_reducible refine Chg.set_ ?_ _ _ (by first | (simp; done) | (simp; omega) | omega)))
  clear hW
  refine (HC.out W C1.bel).mono ?_
  rintro e w1 ⟨rfl, hb1⟩
  have C2 := hide (C1.trans (Chg.of_below (S := []) hb1) (by simp))
  clear hb1 C1
  go_wp2_with fail
  rw [rounds_succ]
  go_wp2_with fail
  go_ret
  exact ⟨rfl, C2.out.bel⟩
/-- Does an argument ask anything? -/
def asksA (x : ArgD) : Bool := x.k == 1 || x.k == 2
def constP (l : List CallD) : Bool := !(l.any fun c => c.args.any asksA)
set_option maxRecDepth 100000 in
theorem asks_any (U : World → Nat → Prop) (hU : Lasts U) (vs : List Value) (x : ArgD) (w : World) (h : ArgR U w vs x) : Calls Tryz.prog 23 #[.agg ⟨vs⟩] w fun e w' => e = .returned (.bool (asksA x)) ∧ Below w.heap.size w w' := by
  obtain ⟨a, c, rfl⟩ : ∃ a c, vs = argCells x.k ⟨x.nm.toArray⟩ a x.path.length c x.i ⟨x.s.toArray⟩ := by obtain ⟨a, c, h1, _⟩ := h; exact ⟨a, c, h1⟩
  clear h
  obtain ⟨k, hk⟩ : ∃ k, x.k = k := ⟨_, rfl⟩
  have hA : asksA x = (k == 1 || k == 2) := by unfold asksA; rw [hk]
  rw [hA, hk]
  clear hA hk
  go_enter Tryz.func23, Tryz.ntmps23
  by_cases h1 : k = 1
  · subst h1
    go_wp2_with fail
    go_ret
    refine ⟨rfl, ?_⟩
    refine name_it (C := fun W => Below w.heap.size w W) fun W hW => ?_
    have C1 : Chg [] w W := by subst hW; (repeat' (first | with_reducible exact Chg.refl _ _ | with_reducible refine Chg.alloc ?_ _ | with_reducible refine Chg.drew ?_ | with_reducible refine Chg.drewN ?_ _ | with_reducible refine Chg.set_ ?_ _ _ (by first | (simp; done) | (simp; omega) | omega)))
    exact C1.bel
  · have e1 : (k == 1) = false := by simpa using h1
    go_wp2_with fail
    go_ret
    refine ⟨by rw [e1, Bool.false_or]; rfl, ?_⟩
    refine name_it (C := fun W => Below w.heap.size w W) fun W hW => ?_
    have C1 : Chg [] w W := by subst hW; (repeat' (first | with_reducible exact Chg.refl _ _ | with_reducible refine Chg.alloc ?_ _ | with_reducible refine Chg.drew ?_ | with_reducible refine Chg.drewN ?_ _ | with_reducible refine Chg.set_ ?_ _ _ (by first | (simp; done) | (simp; omega) | omega)))
    exact C1.bel
set_option maxRecDepth 100000 in
theorem asksC_any (U : World → Nat → Prop) (hU : Lasts U) (vs : List Value) (x : CallD) (w : World) (h : CallR U w vs x) (hm : massC x ≤ 1048576) : Calls Tryz.prog 21 #[.agg ⟨vs⟩] w fun e w' => e = .returned (.bool (x.args.any asksA)) ∧ Below w.heap.size w w' := by
  obtain ⟨a, c, rfl, h2⟩ := h
  have hl : x.args.length ≤ 1048576 := by
    have h1 := sumBy_len massA massA_pos x.args
    unfold massC at hm
    omega
  have cC := hide (fun (W : World) (hb : Below w.heap.size w W) => containsFuncA 23 #[] (fun _ _ => rfl) U hU asksA x.args a c W
    (fun W' vs x hb' hx hR => by
      have h := asks_any U hU vs x W' hR
      obtain ⟨a, c, rfl⟩ : ∃ a c, vs = argCells x.k ⟨x.nm.toArray⟩ a x.path.length c x.i ⟨x.s.toArray⟩ := by obtain ⟨a, c, h1, _⟩ := hR; exact ⟨a, c, h1⟩
      exact h) (h2.on ArgR.steady (hU.stays hb)) hl)
  clear h2 hm hl
  go_enter Tryz.func21, Tryz.ntmps21
  go_wp2_with fail
  refine name_world fun W hW => ?_
  have C1 : Chg [] w W := by subst hW; (repeat' (first | with_reducible exact Chg.refl _ _ | with_reducible refine Chg.alloc ?_ _ | with_reducible refine Chg.drew ?_ | with_reducible refine Chg.drewN ?_ _ | with_reducible refine Chg.set_ ?_ _ _ (by first | (simp; done) | (simp; omega) | omega)))
  clear hW
  refine (cC.out W C1.bel).mono ?_
  rintro e w1 ⟨rfl, hb1⟩
  have C2 := hide (C1.trans (Chg.of_below (S := []) hb1) (by simp))
  clear hb1 C1
  go_wp2_with fail
  go_ret
  exact ⟨rfl, C2.out.bel⟩
set_option maxRecDepth 100000 in
/-- fold.Constant, at any pipeline. -/
theorem constant_any (U : World → Nat → Prop) (hU : Lasts U) (a : Option Addr) (c : Nat) (l : List CallD) (w : World) (h : AtR CallR 2 U w a l) (hm : sumBy massC l ≤ 1048576) : Calls Tryz.prog 7 #[.slice a l.length c] w fun e w' => e = .returned (.bool (constP l)) ∧ Below w.heap.size w w' := by
  have cC := hide (containsFuncC 21 #[] (fun _ _ => rfl) U hU (fun c => c.args.any asksA) l a c w
    (fun W' vs x hb' hx hR => by
      have h := asksC_any U hU vs x W' hR (Nat.le_trans (sumBy_mem massC l x hx) hm)
      obtain ⟨a, c, rfl, _⟩ := hR
      exact h) h (Nat.le_trans (sumBy_len massC massC_pos l) hm))
  clear h hm
  go_enter Tryz.func7, Tryz.ntmps7
  go_wp2_with fail
  refine (cC.out).mono ?_
  rintro e w1 ⟨rfl, hb1⟩
  go_wp2_with fail
  go_ret
  exact ⟨rfl, hb1⟩
end Go.Proofs.YtnepogddjinpoaaGreatDoor
