/-
  PLAIN LAWS of many texts, in one.
-/
import Derived.Test.YtnepogddjinpoaaGreatDoorM3
import Derived.Test.YtnepogddjinpoaaGreatDoorP12
import Derived.Test.YtnepogddjinpoaaGreatDoorAll
import Derived.Test.YtnepogddjinpoaaGreatDoorP14
import Derived.Test.YtnepogddjinpoaaGreatDoorBytes
import Derived.Test.YtnepogddjinpoaaGreatDoorBuildT
namespace Go.Proofs.YtnepogddjinpoaaGreatDoor
open Go.RowKit
set_option linter.unusedVariables false
set_option linter.unusedSimpArgs false

theorem name_codeP {P : Program} {c : Code} {Q : Exit → Act → World → Prop} {a : Act} {w : World} (h : ∀ W, w = W → c.wp P Q a W) : c.wp P Q a w := h w rfl
theorem chg_cell {w W : World} {b o : Nat} {v : Value} (h : Chg [] w W) (hb : b < w.heap.size) (hc : w.cell? ⟨b, o, none⟩ = some v) : W.cell? ⟨b, o, none⟩ = some v := (cellB (h.block b hb (by simp)) _).trans hc
theorem info_valE : (Tryz.prog.info? 26).map (fun i => (i.zero, i.size, i.bytes)) = some (some (.agg #[.int .i64 0, .int .i64 0, .string ⟨#[]⟩, .slice none 0 0, .slice none 0 0]), 5, 80) := by kernel_rfl
set_option maxHeartbeats 4000000 in
set_option maxRecDepth 100000 in
theorem pipe_b (U : World → Nat → Prop) (a : Option Addr) (c : Nat) (w : World) (h : AtR CallR 2 U w a eyP) : Calls Tryz.prog 103 #[envZ, .slice a 1 c] w fun e w' => e = .returned (.tuple #[bVal, .int .i64 0]) ∧ Below w.heap.size w w' := by
  obtain ⟨i0, hi, hz0, hz1, hz2⟩ := info_parts info_valE
  obtain ⟨g, o, vs, rfl, hg, _, _, hcell, hN⟩ := h 0 eyC rfl
  obtain ⟨a2, c2, rfl, h2⟩ : ∃ a c, vs = [.string ⟨#[]⟩, .slice a 1 c] ∧ AtR ArgR 5 U w a [eyA] := hN
  obtain ⟨g2, o2, vs2, rfl, hg2, _, _, hcell2, hN2⟩ := h2 0 eyA rfl
  obtain ⟨a3, c3, rfl⟩ : ∃ a c, vs2 = [.int .i64 4, .string ⟨#[]⟩, .slice a 0 c, .int .i64 0, .string bTxt] := by obtain ⟨a, c, h1, _⟩ := hN2; exact ⟨a, c, h1⟩
  have f0 := hcell 0 _ rfl; have f1 := hcell 1 _ rfl
  have p0 := hcell2 0 _ rfl; have p1 := hcell2 1 _ rfl; have p2 := hcell2 2 _ rfl; have p3 := hcell2 3 _ rfl; have p4 := hcell2 4 _ rfl
  simp only [Nat.add_zero, Nat.zero_mul] at f0 f1 p0 p1 p2 p3 p4
  clear hcell hcell2 hN2 h2 h
  go_enter Tryz.func103, Tryz.ntmps103
  go_wp2_with fail
  refine name_codeP fun W0 hW0 => ?_
  have C0 : Chg [] w W0 := by subst hW0; (repeat' (first | with_reducible exact Chg.refl _ _ | with_reducible refine Chg.alloc ?_ _ | with_reducible refine Chg.drew ?_ | with_reducible refine Chg.drewN ?_ _ | with_reducible refine Chg.set_ ?_ _ _ (by first | (simp; done) | (simp; omega) | omega)))
  have K4 : Blk W0 (w.heap.size + 1) 26 #[.int .i64 0, .int .i64 0, .string ⟨#[]⟩, .slice none 0 0, .slice none 0 0] := by subst hW0; (repeat' (first | with_reducible exact Blk.new_ (by first | rfl | (simp; done) | (simp; omega)) | with_reducible refine Blk.alloc_ ?_ | with_reducible refine Blk.drew ?_ | with_reducible refine Blk.drewN ?_ _ | with_reducible refine Blk.far_ ?_ (by first | (simp; done) | (simp; omega) | omega) | with_reducible apply Blk.set_eq | rfl))
  have K6 : Blk W0 (w.heap.size + 2) 26 #[.int .i64 0, .int .i64 0, .string ⟨#[]⟩, .slice none 0 0, .slice none 0 0] := by subst hW0; (repeat' (first | with_reducible exact Blk.new_ (by first | rfl | (simp; done) | (simp; omega)) | with_reducible refine Blk.alloc_ ?_ | with_reducible refine Blk.drew ?_ | with_reducible refine Blk.drewN ?_ _ | with_reducible refine Blk.far_ ?_ (by first | (simp; done) | (simp; omega) | omega) | with_reducible apply Blk.set_eq | rfl))
  have KE : Blk W0 w.heap.size 168 #[.int .i64 0, .int .i64 0, .string ⟨#[]⟩, .slice none 0 0, .slice none 0 0, .int .i64 0, .int .i64 0, .string ⟨#[]⟩, .slice none 0 0, .slice none 0 0, .slice none 0 0] := by subst hW0; (repeat' (first | with_reducible exact Blk.new_ (by first | rfl | (simp; done) | (simp; omega)) | with_reducible refine Blk.alloc_ ?_ | with_reducible refine Blk.drew ?_ | with_reducible refine Blk.drewN ?_ _ | with_reducible refine Blk.far_ ?_ (by first | (simp; done) | (simp; omega) | omega) | with_reducible apply Blk.set_eq | rfl))
  have hz0' : W0.heap.size = w.heap.size + 3 := by subst hW0; simp
  clear hW0
  have e0 := chg_cell C0 hg f0; have e1 := chg_cell C0 hg f1
  have r0 := chg_cell C0 hg2 p0; have r1 := chg_cell C0 hg2 p1; have r2 := chg_cell C0 hg2 p2; have r3 := chg_cell C0 hg2 p3; have r4 := chg_cell C0 hg2 p4
  have hg' : g < W0.heap.size := by omega
  have hg2' : g2 < W0.heap.size := by omega
  have x0 := KE.cell 0; have x1 := KE.cell 1; have x2 := KE.cell 2; have x3 := KE.cell 3; have x4 := KE.cell 4; have x5 := KE.cell 5; have x6 := KE.cell 6; have x7 := KE.cell 7; have x8 := KE.cell 8; have x9 := KE.cell 9; have x10 := KE.cell 10; simp at x0 x1 x2 x3 x4 x5 x6 x7 x8 x9 x10
  have A0 := fun (ob : Obj) => (World.cell?_alloc_lt W0 ob ⟨g2, o2, none⟩ hg2').trans r0
  have A1 := fun (ob : Obj) => (World.cell?_alloc_lt W0 ob ⟨g2, o2 + 1, none⟩ hg2').trans r1
  have A2 := fun (ob : Obj) => (World.cell?_alloc_lt W0 ob ⟨g2, o2 + 2, none⟩ hg2').trans r2
  have A3 := fun (ob : Obj) => (World.cell?_alloc_lt W0 ob ⟨g2, o2 + 3, none⟩ hg2').trans r3
  have A4 := fun (ob : Obj) => (World.cell?_alloc_lt W0 ob ⟨g2, o2 + 4, none⟩ hg2').trans r4
  have lE := KE.lt
  clear f0 f1 p0 p1 p2 p3 p4 KE
  refine wp_loop_rounds 2 ?_
  rw [rounds_succ]
  go_wp2_with fail
  refine wp_loop_rounds 2 ?_
  rw [rounds_succ]
  go_wp2_with fail
  refine name_world fun W hW => ?_
  have C01 : Chg [] W0 W := by subst hW; (repeat' (first | with_reducible exact Chg.refl _ _ | with_reducible refine Chg.alloc ?_ _ | with_reducible refine Chg.drew ?_ | with_reducible refine Chg.drewN ?_ _ | with_reducible refine Chg.set_ ?_ _ _ (by first | (simp; done) | (simp; omega) | omega)))
  have C1 := C0.trans C01 (by simp)
  have K4 := K4.chg C01 (by simp)
  have K6 := K6.chg C01 (by simp)
  have K8 : Blk W (w.heap.size + 3) 33 #[.string ⟨#[]⟩, .slice (some ⟨g2, o2, none⟩) 1 c2] := by rw [← hz0']; subst hW; (repeat' (first | with_reducible exact Blk.new_ (by first | rfl | (simp; done) | (simp; omega)) | with_reducible refine Blk.alloc_ ?_ | with_reducible refine Blk.drew ?_ | with_reducible refine Blk.drewN ?_ _ | with_reducible refine Blk.far_ ?_ (by first | (simp; done) | (simp; omega) | omega) | with_reducible apply Blk.set_eq | rfl))
  clear A0 A1 A2 A3 A4
  clear hW e0 e1 r0 r1 r2 r3 r4 C0 C01 hg' hg2' hz0' x0 x1 x2 x3 x4 x5 x6 x7 x8 x9 x10 lE
  refine (arg_b a3 c3 W).mono ?_
  rintro e w1 ⟨rfl, hb1⟩
  have C2 := hide (C1.trans (Chg.of_below (S := []) hb1) (by simp))
  have s1 := C2.out.size
  have H4 := hide (K4.chg (Chg.of_below (S := []) hb1) (by simp))
  have H6 := hide (K6.chg (Chg.of_below (S := []) hb1) (by simp))
  have H8 := hide (K8.chg (Chg.of_below (S := []) hb1) (by simp))
  have l8 := H8.out.lt
  clear K4 K6 K8 C1 hb1
  go_wp2_with (at_builtin; refine wpList_append_lies _ rfl _ _ 23 rfl w.heap.size 26 i0 (.agg #[.int .i64 0, .int .i64 0, .string ⟨#[]⟩, .slice none 0 0, .slice none 0 0]) 5 80 Tryz.underlying23 hi hz0 hz1 hz2 rfl (by decide) (.slice none 0 0) 0 [] rfl (World.ownsRow_nil _ _ _ _) ⟨w1.heap.size + 1, 0, none⟩ 1 1 [.int .i64 4, .int .i64 0, .string bTxt, .slice none 0 0, .slice none 0 0] rfl rfl (by intro j u hj; match j, hj with | 0, hj => (simp at hj; subst hj; simp [Addr.add]) | 1, hj => (simp at hj; subst hj; simp [Addr.add]) | 2, hj => (simp at hj; subst hj; simp [Addr.add]) | 3, hj => (simp at hj; subst hj; simp [Addr.add]) | 4, hj => (simp at hj; subst hj; simp [Addr.add])) (by intro u hu; simp at hu; rcases hu with rfl | rfl | rfl | rfl | rfl <;> rfl) (by omega) (by unfold maxLen; omega) (by omega) (by simp; omega) _ rfl ?_)
  intro g4 cp4 w4 hown4 hgrow4 hat4 hlt4
  have C4 : Chg [] w1 w4 := Chg.grown (by (repeat' (first | with_reducible exact Chg.refl _ _ | with_reducible refine Chg.alloc ?_ _ | with_reducible refine Chg.drew ?_ | with_reducible refine Chg.drewN ?_ _ | with_reducible refine Chg.set_ ?_ _ _ (by first | (simp; done) | (simp; omega) | omega)))) hgrow4 (by intro k e; cases e)
  obtain ⟨g5, c5, he5, _, hg5, hA5⟩ := AtB.of_own hown4 (by decide)
  injection he5 with e1 e2 e3
  injection e1 with e1
  injection e1 with e1 e4 e5
  subst e1
  subst e3
  have v0 := hA5.cell 0 _ rfl; have v1 := hA5.cell 1 _ rfl; have v2 := hA5.cell 2 _ rfl; have v3 := hA5.cell 3 _ rfl; have v4 := hA5.cell 4 _ rfl
  have q4 := H4.out.chg C4 (by simp)
  have q6 := H6.out.chg C4 (by simp)
  have q8 := H8.out.chg C4 (by simp)
  have J4 := hide q4; have J6 := hide q6
  have k0 := q8.cell 0; have k1 := q8.cell 1; simp at k0 k1
  have n0 := q6.cell 0; have n1 := q6.cell 1; have n2 := q6.cell 2; have n3 := q6.cell 3; have n4 := q6.cell 4; simp at n0 n1 n2 n3 n4
  have y0 := q6.frozen 0; have y1 := q6.frozen 1; have y2 := q6.frozen 2; have y3 := q6.frozen 3; have y4 := q6.frozen 4
  have m0 := q4.cell 0; have m1 := q4.cell 1; have m2 := q4.cell 2; have m3 := q4.cell 3; have m4 := q4.cell 4; simp at m0 m1 m2 m3 m4
  have z0 := q4.frozen 0; have z1 := q4.frozen 1; have z2 := q4.frozen 2; have z3 := q4.frozen 3; have z4 := q4.frozen 4
  have l4 := q4.lt; have l6 := q6.lt; have l8 := q8.lt
  have C5 := hide (C2.out.trans C4 (by simp))
  clear q4 q6 q8 C4 hown4 hgrow4 hat4 hA5 C2 H4 H6 H8
  go_wp2_with fail
  rw [rounds_succ]
  go_wp2_with fail
  rw [rounds_succ]
  go_wp2_with fail
  refine name_postO fun W hW => ?_
  have C6 : Chg [w.heap.size + 1, w.heap.size + 2] w4 W := by subst hW; (repeat' (first | with_reducible exact Chg.refl _ _ | with_reducible refine Chg.alloc ?_ _ | with_reducible refine Chg.drew ?_ | with_reducible refine Chg.drewN ?_ _ | with_reducible refine Chg.set_ ?_ _ _ (by first | (simp; done) | (simp; omega) | omega)))
  have K9 : Blk W (w.heap.size + 1) 26 #[.int .i64 4, .int .i64 0, .string bTxt, .slice none 0 0, .slice none 0 0] := by subst hW; (repeat' (first | with_reducible exact J4.out | with_reducible exact Blk.new_ (by first | rfl | (simp; done) | (simp; omega)) | with_reducible refine Blk.alloc_ ?_ | with_reducible refine Blk.drew ?_ | with_reducible refine Blk.drewN ?_ _ | with_reducible refine Blk.far_ ?_ (by first | (simp; done) | (simp; omega) | omega) | with_reducible apply Blk.set_eq | rfl))
  clear k0 k1 n0 n1 n2 n3 n4 y0 y1 y2 y3 y4 m0 m1 m2 m3 m4 z0 z1 z2 z3 z4 v0 v1 v2 v3 v4
  have k0 := K9.cell 0; have k1 := K9.cell 1; have k2 := K9.cell 2; have k3 := K9.cell 3; have k4 := K9.cell 4; simp at k0 k1 k2 k3 k4
  clear hW K9
  simp [bodyPost, results, Tryz.results103, go_sem, k0, k1, k2, k3, k4]
  exact ((C5.out.mono (S' := [w.heap.size + 1, w.heap.size + 2]) (by simp)).trans C6 (by simp) |>.mono (S' := []) (by intro x hx; simp at hx; rcases hx with rfl | rfl <;> exact .inr (by omega))).bel
end Go.Proofs.YtnepogddjinpoaaGreatDoor

namespace Go.Proofs.YtnepogddjinpoaaGreatDoor
open Go.RowKit
set_option linter.unusedVariables false
set_option linter.unusedSimpArgs false

theorem repair_b : repairR [98] = [98] := by decide +kernel
set_option maxHeartbeats 1000000 in
set_option maxRecDepth 100000 in
theorem escape_b (w : World) (hT : Lib.Utf8Tabs 1 2 w) : Calls Tryz.prog 106 #[.string bTxt] w fun e w' => e = .returned (.string bTxt) ∧ Below w.heap.size w w' := by
  have HT := hide hT
  clear hT
  go_enter Tryz.func106, Tryz.ntmps106
  go_wp2_with fail
  refine name_world fun W hW => ?_
  have C1 : Chg [] w W := by subst hW; (repeat' (first | with_reducible exact Chg.refl _ _ | with_reducible refine Chg.alloc ?_ _ | with_reducible refine Chg.drew ?_ | with_reducible refine Chg.drewN ?_ _ | with_reducible refine Chg.set_ ?_ _ _ (by first | (simp; done) | (simp; omega) | omega)))
  have hB : IsBT 184 w.heap.size w.heap.size [] W := by subst hW; exact isBT_new _ w _ (Nat.le_refl _)
  clear hW
  have hsW := C1.size
  have cR : Calls Tryz.prog 125 #[.string bTxt] W fun e w' => e = .returned (.string bTxt) ∧ Below W.heap.size W w' := by
    have h := utfRepair_any [98] W (by decide) (Utf8Tabs_below HT.out C1.bel)
    rw [repair_b] at h
    exact h
  refine cR.mono ?_
  rintro e w1 ⟨rfl, hb1⟩
  have hB1 := isBT_keep hB hb1
  have C2 := C1.trans (Chg.of_below (S := []) hb1) (by simp)
  obtain ⟨cap, W1, hcv, hrow, hbel, hlt, hcap⟩ := conv_bytes w1 bTxt
  have hB2 := hide (isBT_keep hB1 hbel)
  have f0 : W1.cell? ⟨w1.heap.size, 0, none⟩ = some (.int .u8 98) := hrow.cell (j := 0) (c := 98) rfl
  have C3 := hide (C2.trans (Chg.of_below (S := []) hbel) (by simp))
  have hsz : (bTxt.size : Nat) = 1 := b_size
  rw [hsz] at hcv
  clear hB hB1 hb1 C1 C2 cR hrow hbel hcap hsW
  go_wp2_with fail
  refine wp_loop_rounds 2 ?_
  rw [rounds_succ]
  go_wp2_with fail
  have hs3 := C3.out.size
  refine (btByte btBuilder w.heap.size w.heap.size [] 98 W1 hB2.out (by decide) hs3).mono ?_
  rintro e w2 ⟨rfl, hB3, hb2, _⟩
  have hb3 : Below w.heap.size w w2 := C3.out.bel.trans hb2
  have hs4 := hb3.size
  go_wp2_with fail
  rw [rounds_succ]
  go_wp2_with fail
  refine (btString w.heap.size w.heap.size [98] w2 hB3 hs4).mono ?_
  rintro e w3 ⟨rfl, hb4⟩
  go_wp2_with fail
  go_ret
  exact ⟨rfl, hb3.trans hb4⟩
set_option maxRecDepth 100000 in
theorem plain_b (w : World) (hT : Lib.Utf8Tabs 1 2 w) : Calls Tryz.prog 108 #[.int .i64 1, .string bTxt] w fun e w' => e = .returned (.string bTxt) ∧ Below w.heap.size w w' := by
  have cE := hide (escape_b w hT)
  clear hT
  go_enter Tryz.func108, Tryz.ntmps108
  go_wp2_with fail
  refine cE.out.mono ?_
  rintro e w1 ⟨rfl, hb1⟩
  go_wp2_with fail
  go_ret
  exact ⟨rfl, hb1⟩
set_option maxHeartbeats 1000000 in
set_option maxRecDepth 100000 in
theorem apply_b (w : World) (hT : Lib.Utf8Tabs 1 2 w) : Calls Tryz.prog 89 #[.int .i64 1, bVal] w fun e w' => e = .returned (.tuple #[.string bTxt, .int .i64 0]) ∧ Below w.heap.size w w' := by
  have HT := hide hT
  clear hT
  go_enter Tryz.func89, Tryz.ntmps89
  go_wp2_with fail
  refine name_world fun W hW => ?_
  have C1 : Chg [] w W := by subst hW; (repeat' (first | with_reducible exact Chg.refl _ _ | with_reducible refine Chg.alloc ?_ _ | with_reducible refine Chg.drew ?_ | with_reducible refine Chg.drewN ?_ _ | with_reducible refine Chg.set_ ?_ _ _ (by first | (simp; done) | (simp; omega) | omega)))
  have K : Blk W w.heap.size 26 #[.int .i64 4, .int .i64 0, .string bTxt, .slice none 0 0, .slice none 0 0] := by subst hW; (repeat' (first | with_reducible exact Blk.new_ (by first | rfl | (simp; done) | (simp; omega)) | with_reducible refine Blk.alloc_ ?_ | with_reducible refine Blk.drew ?_ | with_reducible refine Blk.drewN ?_ _ | with_reducible refine Blk.far_ ?_ (by first | (simp; done) | (simp; omega) | omega) | with_reducible apply Blk.set_eq | rfl))
  clear hW
  refine (check_b W).mono ?_
  rintro e w1 ⟨rfl, hb1⟩
  have C2 := C1.trans (Chg.of_below (S := []) hb1) (by simp)
  have K1 := K.chg (Chg.of_below (S := []) hb1) (by simp)
  have k0 := K1.cell 0; have k1 := K1.cell 1; have k2 := K1.cell 2; have k3 := K1.cell 3; have k4 := K1.cell 4; simp at k0 k1 k2 k3 k4
  clear K hb1 C1 K1
  go_wp2_with (go_at_call 105; refine (safe_b _).mono ?_; rintro e w2 ⟨rfl, rfl⟩)
  refine (told_b w1).mono ?_
  rintro e w3 ⟨rfl, hb3⟩
  have C4 := C2.trans (Chg.of_below (S := []) hb3) (by simp)
  clear C2 hb3 k0 k1 k2 k3 k4
  go_wp2_with fail
  refine (plain_b w3 (Utf8Tabs_below HT.out C4.bel)).mono ?_
  rintro e w4 ⟨rfl, hb4⟩
  have C5 := hide (C4.trans (Chg.of_below (S := []) hb4) (by simp))
  clear C4 hb4
  go_wp2_with fail
  go_ret2
  exact ⟨rfl, C5.out.bel⟩
end Go.Proofs.YtnepogddjinpoaaGreatDoor

namespace Go.Proofs.YtnepogddjinpoaaGreatDoor
open Go.RowKit
set_option linter.unusedVariables false
set_option linter.unusedSimpArgs false

theorem const_b : constP eyP = true := by decide
theorem mass_b : sumBy massC eyP ≤ 1048576 := by
  have h : sumBy massC eyP = 3 := by decide
  rw [h]; omega
set_option maxHeartbeats 2000000 in
set_option maxRecDepth 100000 in
theorem value_b (U : World → Nat → Prop) (hU : Lasts U) (a : Option Addr) (c : Nat) (w : World) (h : AtR CallR 2 U w a eyP) : Calls Tryz.prog 88 #[.slice a 1 c] w fun e w' => e = .returned (.tuple #[bVal, .bool true]) ∧ Below w.heap.size w w' := by
  have cC : Hid (∀ W, Below w.heap.size w W → Calls Tryz.prog 7 #[.slice a 1 c] W fun e w' => e = .returned (.bool true) ∧ Below W.heap.size W w') := hide (fun W hb => by
    have h := constant_any U hU a c eyP W (h.on CallR.steady (hU.stays hb)) mass_b
    rw [const_b] at h
    exact h)
  have cP := hide (fun W (hb : Below w.heap.size w W) => pipe_b U a c W (h.on CallR.steady (hU.stays hb)))
  clear h
  go_enter Tryz.func88, Tryz.ntmps88
  go_wp2_with fail
  refine name_world fun W hW => ?_
  have C1 : Chg [] w W := by subst hW; (repeat' (first | with_reducible exact Chg.refl _ _ | with_reducible refine Chg.alloc ?_ _ | with_reducible refine Chg.drew ?_ | with_reducible refine Chg.drewN ?_ _ | with_reducible refine Chg.set_ ?_ _ _ (by first | (simp; done) | (simp; omega) | omega)))
  have K : Blk W w.heap.size 26 #[.int .i64 0, .int .i64 0, .string ⟨#[]⟩, .slice none 0 0, .slice none 0 0] := by subst hW; (repeat' (first | with_reducible exact Blk.new_ (by first | rfl | (simp; done) | (simp; omega)) | with_reducible refine Blk.alloc_ ?_ | with_reducible refine Blk.drew ?_ | with_reducible refine Blk.drewN ?_ _ | with_reducible refine Blk.far_ ?_ (by first | (simp; done) | (simp; omega) | omega) | with_reducible apply Blk.set_eq | rfl))
  clear hW
  refine (cC.out W C1.bel).mono ?_
  rintro e w1 ⟨rfl, hb1⟩
  have C2 := C1.trans (Chg.of_below (S := []) hb1) (by simp)
  have K1 := K.chg (Chg.of_below (S := []) hb1) (by simp)
  clear K C1 hb1
  go_wp2_with fail
  refine (cP.out w1 C2.bel).mono ?_
  rintro e w2 ⟨rfl, hb2⟩
  have C3 := hide (C2.trans (Chg.of_below (S := []) hb2) (by simp))
  have K2 := K1.chg (Chg.of_below (S := []) hb2) (by simp)
  have HK := hide K2
  have k0 := K2.cell 0; have k1 := K2.cell 1; have k2 := K2.cell 2; have k3 := K2.cell 3; have k4 := K2.cell 4; simp at k0 k1 k2 k3 k4
  have z0 := K2.frozen 0; have z1 := K2.frozen 1; have z2 := K2.frozen 2; have z3 := K2.frozen 3; have z4 := K2.frozen 4
  have l2 := K2.lt
  clear K1 K2 C2 hb2
  go_wp2_with fail
  refine name_postO fun W hW => ?_
  have C4 : Chg [w.heap.size] w2 W := by subst hW; (repeat' (first | with_reducible exact Chg.refl _ _ | with_reducible refine Chg.alloc ?_ _ | with_reducible refine Chg.drew ?_ | with_reducible refine Chg.drewN ?_ _ | with_reducible refine Chg.set_ ?_ _ _ (by first | (simp; done) | (simp; omega) | omega)))
  have K3 : Blk W w.heap.size 26 #[.int .i64 4, .int .i64 0, .string bTxt, .slice none 0 0, .slice none 0 0] := by subst hW; (repeat' (first | with_reducible exact HK.out | with_reducible exact Blk.new_ (by first | rfl | (simp; done) | (simp; omega)) | with_reducible refine Blk.alloc_ ?_ | with_reducible refine Blk.drew ?_ | with_reducible refine Blk.drewN ?_ _ | with_reducible refine Blk.far_ ?_ (by first | (simp; done) | (simp; omega) | omega) | with_reducible apply Blk.set_eq | rfl))
  clear k0 k1 k2 k3 k4 z0 z1 z2 z3 z4
  have k0 := K3.cell 0; have k1 := K3.cell 1; have k2 := K3.cell 2; have k3 := K3.cell 3; have k4 := K3.cell 4; simp at k0 k1 k2 k3 k4
  clear hW K3
  simp [bodyPost, results, Tryz.results88, go_sem, k0, k1, k2, k3, k4]
  exact ((C3.out.mono (S' := [w.heap.size]) (by simp)).trans C4 (by simp) |>.mono (S' := []) (by intro x hx; simp at hx; subst hx; exact .inr (Nat.le_refl _))).bel
set_option maxHeartbeats 2000000 in
set_option maxRecDepth 100000 in
theorem told_node (U : World → Nat → Prop) (hU : Lasts U) (s nm : ByteArray) (a1 a2 a3 : Option Addr) (c1 n2 c2 n3 c3 : Nat) (pos unit : Int) (w : World) (h : AtR CallR 2 U w a1 eyP) (hT : Lib.Utf8Tabs 1 2 w) :
    Calls Tryz.prog 65 #[.agg ⟨nodeCells 2 s nm a1 1 c1 a2 n2 c2 a3 n3 c3 pos 1 unit⟩] w fun e w' => ∃ g, e = .returned (.tuple #[.slice (some ⟨g, 0, none⟩) 1 1, .bool true]) ∧ w.heap.size ≤ g ∧ AtB w' g (nodeCells 1 bTxt ⟨#[]⟩ none 0 0 none 0 0 none 0 0 pos 0 0) ∧ Below w.heap.size w w' := by
  have cV := hide (fun W (hb : Below w.heap.size w W) => value_b U hU a1 c1 W (h.on CallR.steady (hU.stays hb)))
  have cA := hide (fun W (hb : Below w.heap.size w W) => apply_b W (Utf8Tabs_below hT hb))
  have eb : ((⟨#[98]⟩ : ByteArray) == ⟨#[]⟩) = false := by decide +kernel
  clear h hT
  go_enter Tryz.func65, Tryz.ntmps65
  go_wp2_with fail
  refine name_world fun W hW => ?_
  have C1 : Chg [] w W := by subst hW; (repeat' (first | with_reducible exact Chg.refl _ _ | with_reducible refine Chg.alloc ?_ _ | with_reducible refine Chg.drew ?_ | with_reducible refine Chg.drewN ?_ _ | with_reducible refine Chg.set_ ?_ _ _ (by first | (simp; done) | (simp; omega) | omega)))
  have K : Blk W w.heap.size 61 ⟨nodeCells 2 s nm a1 1 c1 a2 n2 c2 a3 n3 c3 pos 1 unit⟩ := by subst hW; (repeat' (first | with_reducible exact Blk.new_ (by first | rfl | (simp; done) | (simp; omega)) | with_reducible refine Blk.alloc_ ?_ | with_reducible refine Blk.drew ?_ | with_reducible refine Blk.drewN ?_ _ | with_reducible refine Blk.far_ ?_ (by first | (simp; done) | (simp; omega) | omega) | with_reducible apply Blk.set_eq | rfl))
  clear hW
  refine (cV.out W C1.bel).mono ?_
  rintro e w1 ⟨rfl, hb1⟩
  have C2 := C1.trans (Chg.of_below (S := []) hb1) (by simp)
  have K1 := K.chg (Chg.of_below (S := []) hb1) (by simp)
  have k7 := K1.cell 7; simp at k7
  have l1 := K1.lt
  clear K C1 hb1
  go_wp2_with fail
  refine name_world fun W hW => ?_
  have C3 : Chg [] w1 W := by subst hW; (repeat' (first | with_reducible exact Chg.refl _ _ | with_reducible refine Chg.alloc ?_ _ | with_reducible refine Chg.drew ?_ | with_reducible refine Chg.drewN ?_ _ | with_reducible refine Chg.set_ ?_ _ _ (by first | (simp; done) | (simp; omega) | omega)))
  have C4 := C2.trans C3 (by simp)
  have K2 := K1.chg C3 (by simp)
  clear hW K1 C2 C3 k7 l1
  refine (cA.out W C4.bel).mono ?_
  rintro e w2 ⟨rfl, hb2⟩
  have C5 := C4.trans (Chg.of_below (S := []) hb2) (by simp)
  have K3 := K2.chg (Chg.of_below (S := []) hb2) (by simp)
  have k6 := K3.cell 6; simp at k6
  have l3 := K3.lt
  clear K2 C4 hb2
  go_wp2_with fail
  go_ret2
  refine ⟨_, rfl, ?_, ?_, ?_⟩
  · exact C5.size
  · exact AtB.of_blk (t := 61) (cs := nodeCells 1 bTxt ⟨#[]⟩ none 0 0 none 0 0 none 0 0 pos 0 0) (by (repeat' (first | with_reducible exact Blk.new_ (by first | rfl | (simp; done) | (simp; omega)) | with_reducible refine Blk.alloc_ ?_ | with_reducible refine Blk.drew ?_ | with_reducible refine Blk.drewN ?_ _ | with_reducible refine Blk.far_ ?_ (by first | (simp; done) | (simp; omega) | omega) | with_reducible apply Blk.set_eq | rfl)))
  · exact (Chg.alloc C5 _).bel
end Go.Proofs.YtnepogddjinpoaaGreatDoor
