/-
  The example's nodes may be (exec.may); how deep they are (parse.Depth).
-/
import Derived.Test.YtnepogddjinpoaaGreatDoorM3
namespace Go.Proofs.YtnepogddjinpoaaGreatDoor
open Go.RowKit
set_option linter.unusedVariables false
set_option linter.unusedSimpArgs false

def eyN1 : NN (NT 0) := ⟨1, [97], [], [], [], [], 0, 0, 0⟩
def eyN2 : NN (NT 0) := ⟨2, [], [], eyP, [], [], 1, 1, 0⟩
def eyN3 : NN (NT 0) := ⟨1, [99], [], [], [], [], 8, 0, 0⟩
def eyL : List (NT 1) := [eyN1, eyN2, eyN3]
theorem depthP0 (a : Option Addr) (c : Nat) (w : World) : Calls Tryz.prog 49 #[.slice a 0 c] w fun e w' => e = .returned (.int .i64 0) ∧ w = w' := by
  go_enter Tryz.func49, Tryz.ntmps49
  go_wp2_with fail
  refine wp_loop_rounds 1 ?_
  rw [rounds_succ]
  go_wp2_with fail
  go_ret
  exact ⟨rfl, rfl⟩
set_option maxHeartbeats 2000000 in
set_option maxRecDepth 100000 in
theorem mayT_ex (k pos esc unit : Int) (s nm : ByteArray) (a1 a2 a3 : Option Addr) (n1 c1 c2 c3 : Nat) (w : World) (hk : k = 1) :
    Calls Tryz.prog 52 #[.agg ⟨nodeCells k s nm a1 n1 c1 a2 0 c2 a3 0 c3 pos esc unit⟩, .int .i64 1] w fun e w' => e = .returned (.bool true) ∧ Below w.heap.size w w' := by
  subst hk
  have cC : Hid (∀ (lb : Array Value) (a : Option Addr) (c : Nat) (W : World), Calls Tryz.prog 50 #[.slice a 0 c, .func (.func 64) #[] lb] W fun e w' => e = .returned (.bool false) ∧ Below W.heap.size W w') := hide (fun lb a c W => containsFuncN 0 64 lb (fun _ _ => rfl) anyB lasts_any (fun _ => false) [] a c W (pred_nil _ _ _ _ _ _ _) AtR.nil (by simp))
  go_enter Tryz.func52, Tryz.ntmps52
  go_wp2_with fail
  refine name_world fun W hW => ?_
  have C1 : Chg [] w W := by subst hW; (repeat' (first | with_reducible exact Chg.refl _ _ | with_reducible refine Chg.alloc ?_ _ | with_reducible refine Chg.drew ?_ | with_reducible refine Chg.drewN ?_ _ | with_reducible refine Chg.set_ ?_ _ _ (by first | (simp; done) | (simp; omega) | omega)))
  have K : Blk W w.heap.size 61 #[.int .i64 1, .string s, .string nm, .slice a1 n1 c1, .slice a2 0 c2, .slice a3 0 c3, .int .i64 pos, .int .i64 esc, .int .i64 unit] := by subst hW; (repeat' (first | with_reducible exact Blk.new_ (by first | rfl | (simp; done) | (simp; omega)) | with_reducible refine Blk.alloc_ ?_ | with_reducible refine Blk.drew ?_ | with_reducible refine Blk.drewN ?_ _ | with_reducible refine Blk.far_ ?_ (by first | (simp; done) | (simp; omega) | omega) | with_reducible apply Blk.set_eq | rfl))
  clear hW
  refine (cC.out _ _ _ W).mono ?_
  rintro e w1 ⟨rfl, hb1⟩
  have C2 := hide (C1.trans (Chg.of_below (S := []) hb1) (by simp))
  have K1 := K.chg (Chg.of_below (S := []) hb1) (by simp)
  have k5 := K1.cell 5; simp at k5
  clear K K1 hb1 C1
  simp only [List.append, List.cons_append, List.nil_append] at *
  go_wp2_with fail
  refine (cC.out _ _ _ w1).mono ?_
  rintro e w2 ⟨rfl, hb2⟩
  go_wp2_with fail
  go_ret
  exact ⟨rfl, (C2.out.trans (Chg.of_below (S := []) hb2) (by simp)).bel⟩
set_option maxHeartbeats 2000000 in
set_option maxRecDepth 100000 in
theorem mayA_ex (U : World → Nat → Prop) (hU : Lasts U) (s nm : ByteArray) (a1 a2 a3 : Option Addr) (c1 c2 c3 : Nat) (pos unit : Int) (w : World) (h : AtR CallR 2 U w a1 eyP) :
    Calls Tryz.prog 52 #[.agg ⟨nodeCells 2 s nm a1 1 c1 a2 0 c2 a3 0 c3 pos 1 unit⟩, .int .i64 1] w fun e w' => e = .returned (.bool true) ∧ Below w.heap.size w w' := by
  have cC : Hid (∀ (lb : Array Value) (a : Option Addr) (c : Nat) (W : World), Calls Tryz.prog 50 #[.slice a 0 c, .func (.func 64) #[] lb] W fun e w' => e = .returned (.bool false) ∧ Below W.heap.size W w') := hide (fun lb a c W => containsFuncN 0 64 lb (fun _ _ => rfl) anyB lasts_any (fun _ => false) [] a c W (pred_nil _ _ _ _ _ _ _) AtR.nil (by simp))
  have cP := hide (fun W (hb : Below w.heap.size w W) => pipeMay_ex U hU a1 c1 W (h.on CallR.steady (hU.stays hb)))
  clear h
  go_enter Tryz.func52, Tryz.ntmps52
  go_wp2_with fail
  refine name_world fun W hW => ?_
  have C1 : Chg [] w W := by subst hW; (repeat' (first | with_reducible exact Chg.refl _ _ | with_reducible refine Chg.alloc ?_ _ | with_reducible refine Chg.drew ?_ | with_reducible refine Chg.drewN ?_ _ | with_reducible refine Chg.set_ ?_ _ _ (by first | (simp; done) | (simp; omega) | omega)))
  have K : Blk W w.heap.size 61 #[.int .i64 2, .string s, .string nm, .slice a1 1 c1, .slice a2 0 c2, .slice a3 0 c3, .int .i64 pos, .int .i64 1, .int .i64 unit] := by subst hW; (repeat' (first | with_reducible exact Blk.new_ (by first | rfl | (simp; done) | (simp; omega)) | with_reducible refine Blk.alloc_ ?_ | with_reducible refine Blk.drew ?_ | with_reducible refine Blk.drewN ?_ _ | with_reducible refine Blk.far_ ?_ (by first | (simp; done) | (simp; omega) | omega) | with_reducible apply Blk.set_eq | rfl))
  clear hW
  refine (cP.out W C1.bel).mono ?_
  rintro e w0 ⟨rfl, hb0⟩
  have C0 := C1.trans (Chg.of_below (S := []) hb0) (by simp)
  have K0 := K.chg (Chg.of_below (S := []) hb0) (by simp)
  have k4 := K0.cell 4; simp at k4
  clear K hb0 C1
  simp only [List.append, List.cons_append, List.nil_append] at *
  go_wp2_with fail
  refine (cC.out _ _ _ w0).mono ?_
  rintro e w1 ⟨rfl, hb1⟩
  have C2 := hide (C0.trans (Chg.of_below (S := []) hb1) (by simp))
  have K1 := K0.chg (Chg.of_below (S := []) hb1) (by simp)
  have k5 := K1.cell 5; simp at k5
  clear K0 K1 hb1 C0 k4
  go_wp2_with fail
  refine (cC.out _ _ _ w1).mono ?_
  rintro e w2 ⟨rfl, hb2⟩
  go_wp2_with fail
  go_ret
  exact ⟨rfl, (C2.out.trans (Chg.of_below (S := []) hb2) (by simp)).bel⟩
theorem nil0 (l : List (NT 0)) : l = [] := by
  cases l with
  | nil => rfl
  | cons x l => exact x.elim
theorem eyL_mem {x : NT 1} (hx : x ∈ eyL) : x = eyN1 ∨ x = eyN2 ∨ x = eyN3 := by
  have hx : x ∈ ([eyN1, eyN2, eyN3] : List (NT 1)) := hx
  cases hx with
  | head => exact .inl rfl
  | tail _ hx =>
    cases hx with
    | head => exact .inr (.inl rfl)
    | tail _ hx =>
      cases hx with
      | head => exact .inr (.inr rfl)
      | tail _ hx => cases hx
/-- Each of the example's nodes may be. -/
theorem mayN_ey (U : World → Nat → Prop) (hU : Lasts U) (x : NT 1) (hx : x ∈ eyL) (vs : List Value) (w : World) (h : NodeR 1 U w vs x) : Calls Tryz.prog 52 #[.agg ⟨vs⟩, .int .i64 1] w fun e w' => e = .returned (.bool true) ∧ Below w.heap.size w w' := by
  obtain ⟨a1, c1, a2, c2, a3, c3, rfl, q1, q2, q3⟩ := NodeR.parts h
  rcases eyL_mem hx with rfl | rfl | rfl
  · exact mayT_ex 1 _ _ _ _ _ _ _ _ _ _ _ _ w rfl
  · exact mayA_ex U hU _ _ a1 _ _ _ _ _ _ _ w q1
  · exact mayT_ex 1 _ _ _ _ _ _ _ _ _ _ _ _ w rfl
set_option maxRecDepth 100000 in
theorem mayC_ex (U : World → Nat → Prop) (hU : Lasts U) (x : NT 1) (hx : x ∈ eyL) (vs : List Value) (g : Nat) (a : Option Addr) (c : Nat) (w : World) (h : NodeR 1 U w vs x) (hg : w.cell? ⟨g, 0, none⟩ = some (.slice a 1 c)) (hl : g < w.heap.size) : Calls Tryz.prog 51 #[.agg ⟨vs⟩, .pointer (some ⟨g, 0, none⟩)] w fun e w' => e = .returned (.bool false) ∧ Below w.heap.size w w' := by
  have HC := hide (fun W (hb : Below w.heap.size w W) => mayN_ey U hU x hx vs W (NodeR.steady 1 _ _ _ _ (hU.stays hb) _ _ h))
  obtain ⟨k, s, nm, a1, n1, c1, a2, n2, c2, a3, n3, c3, pos, esc, unit, rfl⟩ := h.shape
  clear h hx
  go_enter Tryz.func51, Tryz.ntmps51
  go_wp2_with fail
  refine name_world fun W hW => ?_
  have C1 : Chg [] w W := by subst hW; (repeat' (first | with_reducible exact Chg.refl _ _ | with_reducible refine Chg.alloc ?_ _ | with_reducible refine Chg.drew ?_ | with_reducible refine Chg.drewN ?_ _ | with_reducible refine Chg.set_ ?_ _ _ (by first | (simp; done) | (simp; omega) | omega)))
  clear hW
  refine (HC.out W C1.bel).mono ?_
  rintro e w1 ⟨rfl, hb1⟩
  have C2 := hide (C1.trans (Chg.of_below (S := []) hb1) (by simp))
  clear hb1 C1
  go_wp2_with fail
  go_ret
  exact ⟨rfl, C2.out.bel⟩
end Go.Proofs.YtnepogddjinpoaaGreatDoor
