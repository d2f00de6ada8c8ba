/-
  PLAIN LAWS of many texts, in one.
-/
import Derived.Test.YtnepogddjinpoaaGreatDoorM5
import Derived.Test.YtnepogddjinpoaaGreatDoorRefChr
namespace Go.Proofs.YtnepogddjinpoaaGreatDoor
open Go.RowKit
set_option linter.unusedVariables false
set_option linter.unusedSimpArgs false

abbrev st0 : Value := .agg #[.int .i64 0, .string ⟨#[]⟩, .string ⟨#[]⟩, .int .u8 0, .string ⟨#[]⟩, .string ⟨#[]⟩, .int .i64 0, .string ⟨#[]⟩]
set_option maxHeartbeats 2000000 in
set_option maxRecDepth 100000 in
theorem lang_ex (w : World) : Calls Tryz.prog 118 #[st0] w fun e w' => e = .returned (.int .i64 0) ∧ Below w.heap.size w w' := by
  go_enter Tryz.func118, Tryz.ntmps118
  go_wp2_with fail
  go_ret
  exact ⟨rfl, (Chg.bel (by (repeat' (first | with_reducible exact Chg.refl _ _ | with_reducible refine Chg.alloc ?_ _ | with_reducible refine Chg.drew ?_ | with_reducible refine Chg.drewN ?_ _ | with_reducible refine Chg.set_ ?_ _ _ (by first | (simp; done) | (simp; omega) | omega)))))⟩
set_option maxHeartbeats 4000000 in
set_option maxRecDepth 100000 in
theorem check13_ex (w : World) : Calls Tryz.prog 115 #[st0] w fun e w' => e = .returned (.int .i64 0) ∧ Below w.heap.size w w' := by
  go_enter Tryz.func115, Tryz.ntmps115
  go_wp2_with fail
  refine name_world fun W hW => ?_
  have C1 : Chg [] w W := by subst hW; (repeat' (first | with_reducible exact Chg.refl _ _ | with_reducible refine Chg.alloc ?_ _ | with_reducible refine Chg.drew ?_ | with_reducible refine Chg.drewN ?_ _ | with_reducible refine Chg.set_ ?_ _ _ (by first | (simp; done) | (simp; omega) | omega)))
  have K : Blk W w.heap.size 57 #[.int .i64 0, .string ⟨#[]⟩, .string ⟨#[]⟩, .int .u8 0, .string ⟨#[]⟩, .string ⟨#[]⟩, .int .i64 0, .string ⟨#[]⟩] := by subst hW; (repeat' (first | with_reducible exact Blk.new_ (by first | rfl | (simp; done) | (simp; omega)) | with_reducible refine Blk.alloc_ ?_ | with_reducible refine Blk.drew ?_ | with_reducible refine Blk.drewN ?_ _ | with_reducible refine Blk.far_ ?_ (by first | (simp; done) | (simp; omega) | omega) | with_reducible apply Blk.set_eq | rfl))
  clear hW
  refine (lang_ex W).mono ?_
  rintro e w1 ⟨rfl, hb1⟩
  have C2 := C1.below hb1
  have K1 := K.below hb1 K.lt
  clear K hb1 C1
  have n0 := K1.cell 0; have n1 := K1.cell 1; have n2 := K1.cell 2; have n3 := K1.cell 3; have n4 := K1.cell 4; have n5 := K1.cell 5; have n6 := K1.cell 6; have n7 := K1.cell 7; simp at n0 n1 n2 n3 n4 n5 n6 n7
  have ln := K1.lt
  go_wp2_with fail
  go_ret
  exact ⟨rfl, (Chg.bel (by (repeat' (first | with_reducible exact C2 | with_reducible exact Chg.refl _ _ | with_reducible refine Chg.alloc ?_ _ | with_reducible refine Chg.drew ?_ | with_reducible refine Chg.drewN ?_ _ | with_reducible refine Chg.set_ ?_ _ _ (by first | (simp; done) | (simp; omega) | omega)))))⟩
theorem name_post {P : Program} {f : Func} {R : Ending → World → Prop} {x : Exit} {a : Act} {w : World} (h : ∀ W, w = W → bodyPost P f R x a W) : bodyPost P f R x a w := h w rfl
abbrev st0c : Array Value := #[.int .i64 0, .string ⟨#[]⟩, .string ⟨#[]⟩, .int .u8 0, .string ⟨#[]⟩, .string ⟨#[]⟩, .int .i64 0, .string ⟨#[]⟩]
set_option maxHeartbeats 4000000 in
set_option maxRecDepth 100000 in
theorem sub_ex (t : ByteArray) (w : World) : Calls Tryz.prog 192 #[st0, .string t] w fun e w' => e = .returned (.tuple #[st0, .int .i64 0]) ∧ Below w.heap.size w w' := by
  go_enter Tryz.func192, Tryz.ntmps192
  go_wp2_with fail
  refine name_world fun W hW => ?_
  have C1 : Chg [] w W := by subst hW; (repeat' (first | with_reducible exact Chg.refl _ _ | with_reducible refine Chg.alloc ?_ _ | with_reducible refine Chg.drew ?_ | with_reducible refine Chg.drewN ?_ _ | with_reducible refine Chg.set_ ?_ _ _ (by first | (simp; done) | (simp; omega) | omega)))
  have KS : Blk W w.heap.size 57 st0c := by subst hW; (repeat' (first | with_reducible exact Blk.new_ (by first | rfl | (simp; done) | (simp; omega)) | with_reducible refine Blk.alloc_ ?_ | with_reducible refine Blk.drew ?_ | with_reducible refine Blk.drewN ?_ _ | with_reducible refine Blk.far_ ?_ (by first | (simp; done) | (simp; omega) | omega) | with_reducible apply Blk.set_eq | rfl))
  have KR : Blk W (w.heap.size + 1) 57 st0c := by subst hW; (repeat' (first | with_reducible exact Blk.new_ (by first | rfl | (simp; done) | (simp; omega)) | with_reducible refine Blk.alloc_ ?_ | with_reducible refine Blk.drew ?_ | with_reducible refine Blk.drewN ?_ _ | with_reducible refine Blk.far_ ?_ (by first | (simp; done) | (simp; omega) | omega) | with_reducible apply Blk.set_eq | rfl))
  clear hW
  refine (lang_ex W).mono ?_
  rintro e w1 ⟨rfl, hb1⟩
  have C2 := C1.below hb1
  have KS1 := KS.below hb1 KS.lt
  have KR1 := KR.below hb1 KR.lt
  clear KS KR hb1 C1
  have n0 := KS1.cell 0; have n1 := KS1.cell 1; have n2 := KS1.cell 2; have n3 := KS1.cell 3; have n4 := KS1.cell 4; have n5 := KS1.cell 5; have n6 := KS1.cell 6; have n7 := KS1.cell 7; simp at n0 n1 n2 n3 n4 n5 n6 n7
  have r0 := KR1.cell 0; have r1 := KR1.cell 1; have r2 := KR1.cell 2; have r3 := KR1.cell 3; have r4 := KR1.cell 4; have r5 := KR1.cell 5; have r6 := KR1.cell 6; have r7 := KR1.cell 7; simp at r0 r1 r2 r3 r4 r5 r6 r7
  have z0 := KR1.frozen 0; have z1 := KR1.frozen 1; have z2 := KR1.frozen 2; have z3 := KR1.frozen 3; have z4 := KR1.frozen 4; have z5 := KR1.frozen 5; have z6 := KR1.frozen 6; have z7 := KR1.frozen 7
  have ln := KS1.lt; have lr := KR1.lt
  have HKR := hide KR1
  clear KS1 KR1
  go_wp2_with fail
  refine name_post fun W3 hW3 => ?_
  have C3 : Chg [] w W3 := by subst hW3; (repeat' (first | with_reducible exact C2 | with_reducible exact Chg.refl _ _ | with_reducible refine Chg.alloc ?_ _ | with_reducible refine Chg.drew ?_ | with_reducible refine Chg.drewN ?_ _ | with_reducible refine Chg.set_ ?_ _ _ (by first | (simp; done) | (simp; omega) | omega)))
  have KR3 : Blk W3 (w.heap.size + 1) 57 st0c := by subst hW3; (repeat' (first | with_reducible exact HKR.out | with_reducible exact Blk.new_ (by first | rfl | (simp; done) | (simp; omega)) | with_reducible refine Blk.alloc_ ?_ | with_reducible refine Blk.drew ?_ | with_reducible refine Blk.drewN ?_ _ | with_reducible refine Blk.far_ ?_ (by first | (simp; done) | (simp; omega) | omega) | with_reducible apply Blk.set_eq | rfl))
  clear hW3 r0 r1 r2 r3 r4 r5 r6 r7 n0 n1 n2 n3 n4 n5 n6 n7 z0 z1 z2 z3 z4 z5 z6 z7
  have r0 := KR3.cell 0; have r1 := KR3.cell 1; have r2 := KR3.cell 2; have r3 := KR3.cell 3; have r4 := KR3.cell 4; have r5 := KR3.cell 5; have r6 := KR3.cell 6; have r7 := KR3.cell 7; simp at r0 r1 r2 r3 r4 r5 r6 r7
  simp [bodyPost, results, Tryz.results192, go_sem, r0, r1, r2, r3, r4, r5, r6, r7]
  exact C3.bel
theorem conv_one {w : World} {g : Nat} {n : Int} (c : UInt8) (h : n = (c.toNat : Int)) (K : Blk w g 5 #[.int .u8 n]) : (convert 119 9 (.slice (some ⟨g, 0, none⟩) 1 1)).run Tryz.prog w = .ok (.string ⟨#[c]⟩) w := by
  refine conv_str (B := w.heap.size) (l := [c]) 119 9 5 Tryz.underlying119 Tryz.underlying5 Tryz.underlying9 ⟨by simp [bv], fun _ => ⟨⟨g, 0, none⟩, rfl, K.lt, ?_⟩⟩
  intro j u hj
  match j, hj with
  | 0, hj =>
    simp [bv] at hj
    subst hj
    have := K.cell 0
    simp [Addr.add, h] at this ⊢
    exact this
set_option maxHeartbeats 4000000 in
set_option maxRecDepth 100000 in
theorem char_ex (c : Int) (hc : c = 97 ∨ c = 99) (w : World) : Calls Tryz.prog 186 #[st0, .int .u8 c] w fun e w' => e = .returned (.tuple #[st0, .int .i64 0]) ∧ Below w.heap.size w w' := by
  obtain ⟨b, hb⟩ : ∃ b : UInt8, c = (b.toNat : Int) := by rcases hc with rfl | rfl; exact ⟨97, rfl⟩; exact ⟨99, rfl⟩
  have hB := hide hb
  clear hb
  have hne : (c == 38) = false := by rcases hc with rfl | rfl <;> rfl
  go_enter Tryz.func186, Tryz.ntmps186
  go_wp2_with fail
  rw [conv_one b hB.out (by (repeat' (first | with_reducible exact Blk.new_ (by first | rfl | (simp; done) | (simp; omega)) | with_reducible refine Blk.alloc_ ?_ | with_reducible refine Blk.drew ?_ | with_reducible refine Blk.drewN ?_ _ | with_reducible refine Blk.far_ ?_ (by first | (simp; done) | (simp; omega) | omega) | with_reducible apply Blk.set_eq | rfl)))]
  go_wp2_with fail
  refine name_world fun W hW => ?_
  have C1 : Chg [] w W := by subst hW; (repeat' (first | with_reducible exact Chg.refl _ _ | with_reducible refine Chg.alloc ?_ _ | with_reducible refine Chg.drew ?_ | with_reducible refine Chg.drewN ?_ _ | with_reducible refine Chg.set_ ?_ _ _ (by first | (simp; done) | (simp; omega) | omega)))
  have KR : Blk W (w.heap.size + 1) 57 st0c := by subst hW; (repeat' (first | with_reducible exact Blk.new_ (by first | rfl | (simp; done) | (simp; omega)) | with_reducible refine Blk.alloc_ ?_ | with_reducible refine Blk.drew ?_ | with_reducible refine Blk.drewN ?_ _ | with_reducible refine Blk.far_ ?_ (by first | (simp; done) | (simp; omega) | omega) | with_reducible apply Blk.set_eq | rfl))
  clear hW
  refine (sub_ex _ W).mono ?_
  rintro e w1 ⟨rfl, hb1⟩
  have C2 := C1.below hb1
  have KR1 := KR.below hb1 KR.lt
  clear KR hb1 C1
  have r0 := KR1.cell 0; have r1 := KR1.cell 1; have r2 := KR1.cell 2; have r3 := KR1.cell 3; have r4 := KR1.cell 4; have r5 := KR1.cell 5; have r6 := KR1.cell 6; have r7 := KR1.cell 7; simp at r0 r1 r2 r3 r4 r5 r6 r7
  have z0 := KR1.frozen 0; have z1 := KR1.frozen 1; have z2 := KR1.frozen 2; have z3 := KR1.frozen 3; have z4 := KR1.frozen 4; have z5 := KR1.frozen 5; have z6 := KR1.frozen 6; have z7 := KR1.frozen 7
  have lr := KR1.lt
  have HKR := hide KR1
  clear KR1
  go_wp2_with fail
  refine name_post fun W3 hW3 => ?_
  have C3 : Chg [] w W3 := by subst hW3; (repeat' (first | with_reducible exact C2 | with_reducible exact Chg.refl _ _ | with_reducible refine Chg.alloc ?_ _ | with_reducible refine Chg.drew ?_ | with_reducible refine Chg.drewN ?_ _ | with_reducible refine Chg.set_ ?_ _ _ (by first | (simp; done) | (simp; omega) | omega)))
  have KR3 : Blk W3 (w.heap.size + 1) 57 st0c := by subst hW3; (repeat' (first | with_reducible exact HKR.out | with_reducible exact Blk.new_ (by first | rfl | (simp; done) | (simp; omega)) | with_reducible refine Blk.alloc_ ?_ | with_reducible refine Blk.drew ?_ | with_reducible refine Blk.drewN ?_ _ | with_reducible refine Blk.far_ ?_ (by first | (simp; done) | (simp; omega) | omega) | with_reducible apply Blk.set_eq | rfl))
  clear hW3 r0 r1 r2 r3 r4 r5 r6 r7 z0 z1 z2 z3 z4 z5 z6 z7
  have r0 := KR3.cell 0; have r1 := KR3.cell 1; have r2 := KR3.cell 2; have r3 := KR3.cell 3; have r4 := KR3.cell 4; have r5 := KR3.cell 5; have r6 := KR3.cell 6; have r7 := KR3.cell 7; simp at r0 r1 r2 r3 r4 r5 r6 r7
  simp [bodyPost, results, Tryz.results186, go_sem, r0, r1, r2, r3, r4, r5, r6, r7]
  exact C3.bel
end Go.Proofs.YtnepogddjinpoaaGreatDoor

namespace Go.Proofs.YtnepogddjinpoaaGreatDoor
open Go.RowKit
set_option linter.unusedVariables false
set_option linter.unusedSimpArgs false

set_option maxHeartbeats 4000000 in
set_option maxRecDepth 100000 in
theorem outside_ex (c : Int) (hc : c = 97 ∨ c = 99) (w : World) : Calls Tryz.prog 145 #[st0, .int .u8 c] w fun e w' => e = .returned (.tuple #[st0, .int .i64 0]) ∧ Below w.heap.size w w' := by
  obtain ⟨b, hb⟩ : ∃ b : UInt8, c = (b.toNat : Int) := by rcases hc with rfl | rfl; exact ⟨97, rfl⟩; exact ⟨99, rfl⟩
  have hL := fun W => hb ▸ refLet_any b W
  have HL := hide hL
  clear hL hb
  have hne : (c == 60) = false := by rcases hc with rfl | rfl <;> rfl
  go_enter Tryz.func145, Tryz.ntmps145
  go_wp2_with (go_at_call 112; refine (HL.out _).mono ?_; rintro e w1 ⟨rfl, rfl⟩)
  refine name_world fun W hW => ?_
  have C1 : Chg [] w W := by subst hW; (repeat' (first | with_reducible exact Chg.refl _ _ | with_reducible refine Chg.alloc ?_ _ | with_reducible refine Chg.drew ?_ | with_reducible refine Chg.drewN ?_ _ | with_reducible refine Chg.set_ ?_ _ _ (by first | (simp; done) | (simp; omega) | omega)))
  have KR : Blk W (w.heap.size + 1) 57 st0c := by subst hW; (repeat' (first | with_reducible exact Blk.new_ (by first | rfl | (simp; done) | (simp; omega)) | with_reducible refine Blk.alloc_ ?_ | with_reducible refine Blk.drew ?_ | with_reducible refine Blk.drewN ?_ _ | with_reducible refine Blk.far_ ?_ (by first | (simp; done) | (simp; omega) | omega) | with_reducible apply Blk.set_eq | rfl))
  clear hW
  refine (char_ex c hc W).mono ?_
  rintro e w1 ⟨rfl, hb1⟩
  have C2 := C1.below hb1
  have KR1 := KR.below hb1 KR.lt
  clear KR hb1 C1
  have r0 := KR1.cell 0; have r1 := KR1.cell 1; have r2 := KR1.cell 2; have r3 := KR1.cell 3; have r4 := KR1.cell 4; have r5 := KR1.cell 5; have r6 := KR1.cell 6; have r7 := KR1.cell 7; simp at r0 r1 r2 r3 r4 r5 r6 r7
  have z0 := KR1.frozen 0; have z1 := KR1.frozen 1; have z2 := KR1.frozen 2; have z3 := KR1.frozen 3; have z4 := KR1.frozen 4; have z5 := KR1.frozen 5; have z6 := KR1.frozen 6; have z7 := KR1.frozen 7
  have lr := KR1.lt
  have HKR := hide KR1
  clear KR1
  go_wp2_with fail
  refine name_post fun W3 hW3 => ?_
  have C3 : Chg [] w W3 := by subst hW3; (repeat' (first | with_reducible exact C2 | with_reducible exact Chg.refl _ _ | with_reducible refine Chg.alloc ?_ _ | with_reducible refine Chg.drew ?_ | with_reducible refine Chg.drewN ?_ _ | with_reducible refine Chg.set_ ?_ _ _ (by first | (simp; done) | (simp; omega) | omega)))
  have KR3 : Blk W3 (w.heap.size + 1) 57 st0c := by subst hW3; (repeat' (first | with_reducible exact HKR.out | with_reducible exact Blk.new_ (by first | rfl | (simp; done) | (simp; omega)) | with_reducible refine Blk.alloc_ ?_ | with_reducible refine Blk.drew ?_ | with_reducible refine Blk.drewN ?_ _ | with_reducible refine Blk.far_ ?_ (by first | (simp; done) | (simp; omega) | omega) | with_reducible apply Blk.set_eq | rfl))
  clear hW3 r0 r1 r2 r3 r4 r5 r6 r7 z0 z1 z2 z3 z4 z5 z6 z7
  have r0 := KR3.cell 0; have r1 := KR3.cell 1; have r2 := KR3.cell 2; have r3 := KR3.cell 3; have r4 := KR3.cell 4; have r5 := KR3.cell 5; have r6 := KR3.cell 6; have r7 := KR3.cell 7; simp at r0 r1 r2 r3 r4 r5 r6 r7
  simp [bodyPost, results, Tryz.results145, go_sem, r0, r1, r2, r3, r4, r5, r6, r7]
  exact C3.bel
set_option maxHeartbeats 4000000 in
set_option maxRecDepth 100000 in
theorem step17_ex (c : Int) (hc : c = 97 ∨ c = 99) (w : World) : Calls Tryz.prog 116 #[st0, .int .u8 c] w fun e w' => e = .returned (.tuple #[st0, .int .i64 0]) ∧ Below w.heap.size w w' := by
  go_enter Tryz.func116, Tryz.ntmps116
  go_wp2_with fail
  refine name_world fun W hW => ?_
  have C1 : Chg [] w W := by subst hW; (repeat' (first | with_reducible exact Chg.refl _ _ | with_reducible refine Chg.alloc ?_ _ | with_reducible refine Chg.drew ?_ | with_reducible refine Chg.drewN ?_ _ | with_reducible refine Chg.set_ ?_ _ _ (by first | (simp; done) | (simp; omega) | omega)))
  have KS : Blk W w.heap.size 57 st0c := by subst hW; (repeat' (first | with_reducible exact Blk.new_ (by first | rfl | (simp; done) | (simp; omega)) | with_reducible refine Blk.alloc_ ?_ | with_reducible refine Blk.drew ?_ | with_reducible refine Blk.drewN ?_ _ | with_reducible refine Blk.far_ ?_ (by first | (simp; done) | (simp; omega) | omega) | with_reducible apply Blk.set_eq | rfl))
  have KR : Blk W (w.heap.size + 1) 57 st0c := by subst hW; (repeat' (first | with_reducible exact Blk.new_ (by first | rfl | (simp; done) | (simp; omega)) | with_reducible refine Blk.alloc_ ?_ | with_reducible refine Blk.drew ?_ | with_reducible refine Blk.drewN ?_ _ | with_reducible refine Blk.far_ ?_ (by first | (simp; done) | (simp; omega) | omega) | with_reducible apply Blk.set_eq | rfl))
  clear hW
  refine (check13_ex W).mono ?_
  rintro e w1 ⟨rfl, hb1⟩
  have C2 := C1.below hb1
  have KS1 := KS.below hb1 KS.lt
  have KR1 := KR.below hb1 KR.lt
  clear KS KR hb1 C1
  have n0 := KS1.cell 0; have n1 := KS1.cell 1; have n2 := KS1.cell 2; have n3 := KS1.cell 3; have n4 := KS1.cell 4; have n5 := KS1.cell 5; have n6 := KS1.cell 6; have n7 := KS1.cell 7; simp at n0 n1 n2 n3 n4 n5 n6 n7
  have ln := KS1.lt
  go_wp2_with fail
  refine name_world fun W2 hW2 => ?_
  have C3 : Chg [] w W2 := by subst hW2; (repeat' (first | with_reducible exact C2 | with_reducible exact Chg.refl _ _ | with_reducible refine Chg.alloc ?_ _ | with_reducible refine Chg.drew ?_ | with_reducible refine Chg.drewN ?_ _ | with_reducible refine Chg.set_ ?_ _ _ (by first | (simp; done) | (simp; omega) | omega)))
  have KR2 : Blk W2 (w.heap.size + 1) 57 st0c := by subst hW2; (repeat' (first | with_reducible exact KR1 | with_reducible exact Blk.new_ (by first | rfl | (simp; done) | (simp; omega)) | with_reducible refine Blk.alloc_ ?_ | with_reducible refine Blk.drew ?_ | with_reducible refine Blk.drewN ?_ _ | with_reducible refine Blk.far_ ?_ (by first | (simp; done) | (simp; omega) | omega) | with_reducible apply Blk.set_eq | rfl))
  have KT2 : Blk W2 w1.heap.size 57 st0c := by subst hW2; (repeat' (first | with_reducible exact Blk.new_ (by first | rfl | (simp; done) | (simp; omega)) | with_reducible refine Blk.alloc_ ?_ | with_reducible refine Blk.drew ?_ | with_reducible refine Blk.drewN ?_ _ | with_reducible refine Blk.far_ ?_ (by first | (simp; done) | (simp; omega) | omega) | with_reducible apply Blk.set_eq | rfl))
  have hs := C2.size
  have ls := KR1.lt
  clear hW2 n0 n1 n2 n3 n4 n5 n6 n7 ln KS1 KR1 C2
  refine (outside_ex c hc W2).mono ?_
  rintro e w3 ⟨rfl, hb3⟩
  have C4 := C3.below hb3
  have KR1 := KR2.below hb3 KR2.lt
  have KT1 := KT2.below hb3 KT2.lt
  clear KR2 KT2 hb3 C3
  have n0 := KT1.cell 0; have n1 := KT1.cell 1; have n2 := KT1.cell 2; have n3 := KT1.cell 3; have n4 := KT1.cell 4; have n5 := KT1.cell 5; have n6 := KT1.cell 6; have n7 := KT1.cell 7; simp at n0 n1 n2 n3 n4 n5 n6 n7
  have y0 := KT1.frozen 0; have y1 := KT1.frozen 1; have y2 := KT1.frozen 2; have y3 := KT1.frozen 3; have y4 := KT1.frozen 4; have y5 := KT1.frozen 5; have y6 := KT1.frozen 6; have y7 := KT1.frozen 7
  have lt := KT1.lt
  clear KT1
  have C2 := C4
  clear C4
  have r0 := KR1.cell 0; have r1 := KR1.cell 1; have r2 := KR1.cell 2; have r3 := KR1.cell 3; have r4 := KR1.cell 4; have r5 := KR1.cell 5; have r6 := KR1.cell 6; have r7 := KR1.cell 7; simp at r0 r1 r2 r3 r4 r5 r6 r7
  have z0 := KR1.frozen 0; have z1 := KR1.frozen 1; have z2 := KR1.frozen 2; have z3 := KR1.frozen 3; have z4 := KR1.frozen 4; have z5 := KR1.frozen 5; have z6 := KR1.frozen 6; have z7 := KR1.frozen 7
  have lr := KR1.lt
  have HKR := hide KR1
  clear KR1
  go_wp2_with fail
  refine name_post fun W3 hW3 => ?_
  have C3 : Chg [] w W3 := by subst hW3; (repeat' (first | with_reducible exact C2 | with_reducible exact Chg.refl _ _ | with_reducible refine Chg.alloc ?_ _ | with_reducible refine Chg.drew ?_ | with_reducible refine Chg.drewN ?_ _ | with_reducible refine Chg.set_ ?_ _ _ (by first | (simp; done) | (simp; omega) | omega)))
  have KR3 : Blk W3 (w.heap.size + 1) 57 st0c := by subst hW3; (repeat' (first | with_reducible exact HKR.out | with_reducible exact Blk.new_ (by first | rfl | (simp; done) | (simp; omega)) | with_reducible refine Blk.alloc_ ?_ | with_reducible refine Blk.drew ?_ | with_reducible refine Blk.drewN ?_ _ | with_reducible refine Blk.far_ ?_ (by first | (simp; done) | (simp; omega) | omega) | with_reducible apply Blk.set_eq | rfl))
  clear hW3 r0 r1 r2 r3 r4 r5 r6 r7 z0 z1 z2 z3 z4 z5 z6 z7
  have r0 := KR3.cell 0; have r1 := KR3.cell 1; have r2 := KR3.cell 2; have r3 := KR3.cell 3; have r4 := KR3.cell 4; have r5 := KR3.cell 5; have r6 := KR3.cell 6; have r7 := KR3.cell 7; simp at r0 r1 r2 r3 r4 r5 r6 r7
  simp [bodyPost, results, Tryz.results116, go_sem, r0, r1, r2, r3, r4, r5, r6, r7]
  exact C3.bel
end Go.Proofs.YtnepogddjinpoaaGreatDoor

namespace Go.Proofs.YtnepogddjinpoaaGreatDoor
open Go.RowKit
set_option linter.unusedVariables false
set_option linter.unusedSimpArgs false

theorem name_code {P : Program} {c : Code} {Q : Exit → Act → World → Prop} {a : Act} {w : World} (h : ∀ W, w = W → c.wp P Q a W) : c.wp P Q a w := h w rfl
set_option maxHeartbeats 4000000 in
set_option maxRecDepth 100000 in
theorem feed17_ex (c : UInt8) (hc : (c.toNat : Int) = 97 ∨ (c.toNat : Int) = 99) (w : World) : Calls Tryz.prog 98 #[st0, .string ⟨#[c]⟩] w fun e w' => e = .returned (.tuple #[st0, .int .i64 1, .int .i64 0]) ∧ Below w.heap.size w w' := by
  have HS := hide (fun W => step17_ex (c.toNat : Int) hc W)
  clear hc
  go_enter Tryz.func98, Tryz.ntmps98
  go_wp2_with fail
  refine name_world fun W hW => ?_
  have C1 : Chg [] w W := by subst hW; (repeat' (first | with_reducible exact Chg.refl _ _ | with_reducible refine Chg.alloc ?_ _ | with_reducible refine Chg.drew ?_ | with_reducible refine Chg.drewN ?_ _ | with_reducible refine Chg.set_ ?_ _ _ (by first | (simp; done) | (simp; omega) | omega)))
  have KS : Blk W w.heap.size 57 st0c := by subst hW; (repeat' (first | with_reducible exact Blk.new_ (by first | rfl | (simp; done) | (simp; omega)) | with_reducible refine Blk.alloc_ ?_ | with_reducible refine Blk.drew ?_ | with_reducible refine Blk.drewN ?_ _ | with_reducible refine Blk.far_ ?_ (by first | (simp; done) | (simp; omega) | omega) | with_reducible apply Blk.set_eq | rfl))
  have KR : Blk W (w.heap.size + 1) 57 st0c := by subst hW; (repeat' (first | with_reducible exact Blk.new_ (by first | rfl | (simp; done) | (simp; omega)) | with_reducible refine Blk.alloc_ ?_ | with_reducible refine Blk.drew ?_ | with_reducible refine Blk.drewN ?_ _ | with_reducible refine Blk.far_ ?_ (by first | (simp; done) | (simp; omega) | omega) | with_reducible apply Blk.set_eq | rfl))
  clear hW
  refine (check13_ex W).mono ?_
  rintro e w1 ⟨rfl, hb1⟩
  have C2 := C1.below hb1
  have KS1 := KS.below hb1 KS.lt
  have KR1 := KR.below hb1 KR.lt
  clear KS KR hb1 C1
  have n0 := KS1.cell 0; have n1 := KS1.cell 1; have n2 := KS1.cell 2; have n3 := KS1.cell 3; have n4 := KS1.cell 4; have n5 := KS1.cell 5; have n6 := KS1.cell 6; have n7 := KS1.cell 7; simp at n0 n1 n2 n3 n4 n5 n6 n7
  have y0 := KS1.frozen 0; have y1 := KS1.frozen 1; have y2 := KS1.frozen 2; have y3 := KS1.frozen 3; have y4 := KS1.frozen 4; have y5 := KS1.frozen 5; have y6 := KS1.frozen 6; have y7 := KS1.frozen 7
  have ln := KS1.lt
  have HK := hide (And.intro C2 (And.intro KS1 KR1))
  clear C2 KS1 KR1
  go_wp2_with fail
  refine wp_loop_rounds 2 ?_
  rw [rounds_succ]
  go_wp2_with fail
  go_region_with (go_at_call 116; refine (HS.out _).mono ?_; rintro e w2 ⟨rfl, hb2⟩; have HC3 := hide (HK.out.1.drew.below hb2); have KS2 := HK.out.2.1.drew.below hb2 HK.out.2.1.lt; have HR2 := hide (HK.out.2.2.drew.below hb2 HK.out.2.2.lt); clear n0 n1 n2 n3 n4 n5 n6 n7 y0 y1 y2 y3 y4 y5 y6 y7 ln hb2; have n0 := KS2.cell 0; have n1 := KS2.cell 1; have n2 := KS2.cell 2; have n3 := KS2.cell 3; have n4 := KS2.cell 4; have n5 := KS2.cell 5; have n6 := KS2.cell 6; have n7 := KS2.cell 7; simp at n0 n1 n2 n3 n4 n5 n6 n7; have y0 := KS2.frozen 0; have y1 := KS2.frozen 1; have y2 := KS2.frozen 2; have y3 := KS2.frozen 3; have y4 := KS2.frozen 4; have y5 := KS2.frozen 5; have y6 := KS2.frozen 6; have y7 := KS2.frozen 7; have ln := KS2.lt)
  all_goals
    go_wp2_with fail
    refine name_rounds fun W3 hW3 => ?_
    have C2 : Chg [] w W3 := by have C9 := HC3.out; subst hW3; (repeat' (first | with_reducible exact C9 | with_reducible exact Chg.refl _ _ | with_reducible refine Chg.alloc ?_ _ | with_reducible refine Chg.drew ?_ | with_reducible refine Chg.drewN ?_ _ | with_reducible refine Chg.set_ ?_ _ _ (by first | (simp; done) | (simp; omega) | omega)))
    have KS1 : Blk W3 w.heap.size 57 st0c := by subst hW3; (repeat' (first | with_reducible exact KS2 | with_reducible exact Blk.new_ (by first | rfl | (simp; done) | (simp; omega)) | with_reducible refine Blk.alloc_ ?_ | with_reducible refine Blk.drew ?_ | with_reducible refine Blk.drewN ?_ _ | with_reducible refine Blk.far_ ?_ (by first | (simp; done) | (simp; omega) | omega) | with_reducible apply Blk.set_eq | rfl))
    have KR1 : Blk W3 (w.heap.size + 1) 57 st0c := by subst hW3; (repeat' (first | with_reducible exact HR2.out | with_reducible exact Blk.new_ (by first | rfl | (simp; done) | (simp; omega)) | with_reducible refine Blk.alloc_ ?_ | with_reducible refine Blk.drew ?_ | with_reducible refine Blk.drewN ?_ _ | with_reducible refine Blk.far_ ?_ (by first | (simp; done) | (simp; omega) | omega) | with_reducible apply Blk.set_eq | rfl))
    clear hW3 n0 n1 n2 n3 n4 n5 n6 n7 y0 y1 y2 y3 y4 y5 y6 y7 ln HC3 KS2 HR2
    have n0 := KS1.cell 0; have n1 := KS1.cell 1; have n2 := KS1.cell 2; have n3 := KS1.cell 3; have n4 := KS1.cell 4; have n5 := KS1.cell 5; have n6 := KS1.cell 6; have n7 := KS1.cell 7; simp at n0 n1 n2 n3 n4 n5 n6 n7
    have ln := KS1.lt
    rw [rounds_succ]
    have r0 := KR1.cell 0; have r1 := KR1.cell 1; have r2 := KR1.cell 2; have r3 := KR1.cell 3; have r4 := KR1.cell 4; have r5 := KR1.cell 5; have r6 := KR1.cell 6; have r7 := KR1.cell 7; simp at r0 r1 r2 r3 r4 r5 r6 r7
    have z0 := KR1.frozen 0; have z1 := KR1.frozen 1; have z2 := KR1.frozen 2; have z3 := KR1.frozen 3; have z4 := KR1.frozen 4; have z5 := KR1.frozen 5; have z6 := KR1.frozen 6; have z7 := KR1.frozen 7
    have lr := KR1.lt
    have HKR := hide KR1
    clear KR1
    go_wp2_with fail
    refine name_post fun W4 hW4 => ?_
    have C3 : Chg [] w W4 := by subst hW4; (repeat' (first | with_reducible exact C2 | with_reducible exact Chg.refl _ _ | with_reducible refine Chg.alloc ?_ _ | with_reducible refine Chg.drew ?_ | with_reducible refine Chg.drewN ?_ _ | with_reducible refine Chg.set_ ?_ _ _ (by first | (simp; done) | (simp; omega) | omega)))
    have KR3 : Blk W4 (w.heap.size + 1) 57 st0c := by subst hW4; (repeat' (first | with_reducible exact HKR.out | with_reducible exact Blk.new_ (by first | rfl | (simp; done) | (simp; omega)) | with_reducible refine Blk.alloc_ ?_ | with_reducible refine Blk.drew ?_ | with_reducible refine Blk.drewN ?_ _ | with_reducible refine Blk.far_ ?_ (by first | (simp; done) | (simp; omega) | omega) | with_reducible apply Blk.set_eq | rfl))
    clear hW4 r0 r1 r2 r3 r4 r5 r6 r7 z0 z1 z2 z3 z4 z5 z6 z7
    have r0 := KR3.cell 0; have r1 := KR3.cell 1; have r2 := KR3.cell 2; have r3 := KR3.cell 3; have r4 := KR3.cell 4; have r5 := KR3.cell 5; have r6 := KR3.cell 6; have r7 := KR3.cell 7; simp at r0 r1 r2 r3 r4 r5 r6 r7
    simp [bodyPost, results, Tryz.results98, go_sem, r0, r1, r2, r3, r4, r5, r6, r7]
    exact C3.bel
set_option maxHeartbeats 4000000 in
set_option maxRecDepth 100000 in
theorem hole17_ex (w : World) : Calls Tryz.prog 99 #[st0] w fun e w' => e = .returned (.tuple #[st0, .int .i64 1, .int .i64 0]) ∧ Below w.heap.size w w' := by
  go_enter Tryz.func99, Tryz.ntmps99
  go_wp2_with fail
  refine name_world fun W hW => ?_
  have C1 : Chg [] w W := by subst hW; (repeat' (first | with_reducible exact Chg.refl _ _ | with_reducible refine Chg.alloc ?_ _ | with_reducible refine Chg.drew ?_ | with_reducible refine Chg.drewN ?_ _ | with_reducible refine Chg.set_ ?_ _ _ (by first | (simp; done) | (simp; omega) | omega)))
  have KS : Blk W w.heap.size 57 st0c := by subst hW; (repeat' (first | with_reducible exact Blk.new_ (by first | rfl | (simp; done) | (simp; omega)) | with_reducible refine Blk.alloc_ ?_ | with_reducible refine Blk.drew ?_ | with_reducible refine Blk.drewN ?_ _ | with_reducible refine Blk.far_ ?_ (by first | (simp; done) | (simp; omega) | omega) | with_reducible apply Blk.set_eq | rfl))
  have KR : Blk W (w.heap.size + 1) 57 st0c := by subst hW; (repeat' (first | with_reducible exact Blk.new_ (by first | rfl | (simp; done) | (simp; omega)) | with_reducible refine Blk.alloc_ ?_ | with_reducible refine Blk.drew ?_ | with_reducible refine Blk.drewN ?_ _ | with_reducible refine Blk.far_ ?_ (by first | (simp; done) | (simp; omega) | omega) | with_reducible apply Blk.set_eq | rfl))
  clear hW
  refine (check13_ex W).mono ?_
  rintro e w1 ⟨rfl, hb1⟩
  have C2 := C1.below hb1
  have KS1 := KS.below hb1 KS.lt
  have KR1 := KR.below hb1 KR.lt
  clear KS KR hb1 C1
  have n0 := KS1.cell 0; have n1 := KS1.cell 1; have n2 := KS1.cell 2; have n3 := KS1.cell 3; have n4 := KS1.cell 4; have n5 := KS1.cell 5; have n6 := KS1.cell 6; have n7 := KS1.cell 7; simp at n0 n1 n2 n3 n4 n5 n6 n7
  have ln := KS1.lt
  have r0 := KR1.cell 0; have r1 := KR1.cell 1; have r2 := KR1.cell 2; have r3 := KR1.cell 3; have r4 := KR1.cell 4; have r5 := KR1.cell 5; have r6 := KR1.cell 6; have r7 := KR1.cell 7; simp at r0 r1 r2 r3 r4 r5 r6 r7
  have z0 := KR1.frozen 0; have z1 := KR1.frozen 1; have z2 := KR1.frozen 2; have z3 := KR1.frozen 3; have z4 := KR1.frozen 4; have z5 := KR1.frozen 5; have z6 := KR1.frozen 6; have z7 := KR1.frozen 7
  have lr := KR1.lt
  have HKR := hide KR1
  clear KR1
  go_wp2_with fail
  refine name_post fun W3 hW3 => ?_
  have C3 : Chg [] w W3 := by subst hW3; (repeat' (first | with_reducible exact C2 | with_reducible exact Chg.refl _ _ | with_reducible refine Chg.alloc ?_ _ | with_reducible refine Chg.drew ?_ | with_reducible refine Chg.drewN ?_ _ | with_reducible refine Chg.set_ ?_ _ _ (by first | (simp; done) | (simp; omega) | omega)))
  have KR3 : Blk W3 (w.heap.size + 1) 57 st0c := by subst hW3; (repeat' (first | with_reducible exact HKR.out | with_reducible exact Blk.new_ (by first | rfl | (simp; done) | (simp; omega)) | with_reducible refine Blk.alloc_ ?_ | with_reducible refine Blk.drew ?_ | with_reducible refine Blk.drewN ?_ _ | with_reducible refine Blk.far_ ?_ (by first | (simp; done) | (simp; omega) | omega) | with_reducible apply Blk.set_eq | rfl))
  clear hW3 r0 r1 r2 r3 r4 r5 r6 r7 z0 z1 z2 z3 z4 z5 z6 z7
  have r0 := KR3.cell 0; have r1 := KR3.cell 1; have r2 := KR3.cell 2; have r3 := KR3.cell 3; have r4 := KR3.cell 4; have r5 := KR3.cell 5; have r6 := KR3.cell 6; have r7 := KR3.cell 7; simp at r0 r1 r2 r3 r4 r5 r6 r7
  simp [bodyPost, results, Tryz.results99, go_sem, r0, r1, r2, r3, r4, r5, r6, r7]
  exact C3.bel
end Go.Proofs.YtnepogddjinpoaaGreatDoor
