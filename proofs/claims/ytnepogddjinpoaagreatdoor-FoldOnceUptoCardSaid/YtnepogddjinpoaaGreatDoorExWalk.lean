/-
  The page's example a{{"b"}}c: its nodes, walked (muslinref25.Walker.nodes).
-/
import Derived.Test.YtnepogddjinpoaaGreatDoorM6
namespace Go.Proofs.YtnepogddjinpoaaGreatDoor
open Go.RowKit
set_option linter.unusedVariables false
set_option linter.unusedSimpArgs false

/-- The example's nodes, the action's filter found. -/
def exNodesE (vp : Value) : List Value :=
  [.int .i64 1, .string ⟨#[97]⟩, .string ⟨#[]⟩, .slice none 0 0, .slice none 0 0, .slice none 0 0, .int .i64 0, .int .i64 0, .int .i64 0,
   .int .i64 2, .string ⟨#[]⟩, .string ⟨#[]⟩, vp, .slice none 0 0, .slice none 0 0, .int .i64 1, .int .i64 1, .int .i64 0,
   .int .i64 1, .string ⟨#[99]⟩, .string ⟨#[]⟩, .slice none 0 0, .slice none 0 0, .slice none 0 0, .int .i64 8, .int .i64 0, .int .i64 0]
set_option maxHeartbeats 8000000 in
set_option maxRecDepth 100000 in
theorem nodes25_ex (w : World) (p : Value) (g c C : Nat) (vp : Value) (h : AtB w g (exNodes vp)) (hp : ExPipe w C vp) : Calls Tryz.prog 84 #[p, .slice (some ⟨g, 0, none⟩) 3 c, st0] w fun e w' => ∃ v, e = .returned (.tuple #[v, st0, .bool true]) ∧ w'.ownsRow (w.heap.size + 2) 61 9 v 3 (exNodesE vp) ∧ Below w.heap.size w w' := by
  obtain ⟨i0, hi, hz0, hz1, hz2'⟩ := info_parts info_node
  obtain ⟨gp, cp, gq, hvp, _⟩ := hp.some_
  subst hvp
  have Hh := hide h
  clear hp
  go_enter Tryz.func84, Tryz.ntmps84
  go_wp2_with fail
  refine wp_loop_rounds 4 ?_
  refine name_rounds fun W0 hW0 => ?_
  have C0 : Chg [] w W0 := by subst hW0; (repeat' (first | with_reducible exact Chg.refl _ _ | with_reducible refine Chg.alloc ?_ _ | with_reducible refine Chg.drew ?_ | with_reducible refine Chg.drewN ?_ _ | with_reducible refine Chg.set_ ?_ _ _ (by first | (simp; done) | (simp; omega) | omega)))
  have KS0 : Blk W0 w.heap.size 57 st0c := by subst hW0; (repeat' (first | with_reducible exact Blk.new_ (by first | rfl | (simp; done) | (simp; omega)) | with_reducible refine Blk.alloc_ ?_ | with_reducible refine Blk.drew ?_ | with_reducible refine Blk.drewN ?_ _ | with_reducible refine Blk.far_ ?_ (by first | (simp; done) | (simp; omega) | omega) | with_reducible apply Blk.set_eq | rfl))
  have KR0 : Blk W0 (w.heap.size + 1) 57 st0c := by subst hW0; (repeat' (first | with_reducible exact Blk.new_ (by first | rfl | (simp; done) | (simp; omega)) | with_reducible refine Blk.alloc_ ?_ | with_reducible refine Blk.drew ?_ | with_reducible refine Blk.drewN ?_ _ | with_reducible refine Blk.far_ ?_ (by first | (simp; done) | (simp; omega) | omega) | with_reducible apply Blk.set_eq | rfl))
  have HO0 := hide (World.ownsRow_nil W0 (w.heap.size + 2) 61 9)
  have hz : w.heap.size + 2 ≤ W0.heap.size := by subst hW0; simp
  clear hW0
  have hA := Hh.out.chg C0 (by simp)
  have n0 := hA.cell 0 _ rfl; have n1 := hA.cell 1 _ rfl; have n2 := hA.cell 2 _ rfl; have n3 := hA.cell 3 _ rfl; have n4 := hA.cell 4 _ rfl; have n5 := hA.cell 5 _ rfl; have n6 := hA.cell 6 _ rfl; have n7 := hA.cell 7 _ rfl; have n8 := hA.cell 8 _ rfl
  have lg := hA.lt
  have hlt : ∀ k, (.slice none 0 0 : Value).ownBlock = some k → k < W0.heap.size := fun k hk => (HO0.out.lt k hk).2
  have HL := hide hlt
  clear hlt
  have s0 := KS0.cell 0; have s1 := KS0.cell 1; have s2 := KS0.cell 2; have s3 := KS0.cell 3; have s4 := KS0.cell 4; have s5 := KS0.cell 5; have s6 := KS0.cell 6; have s7 := KS0.cell 7; simp at s0 s1 s2 s3 s4 s5 s6 s7
  have y0 := KS0.frozen 0; have y1 := KS0.frozen 1; have y2 := KS0.frozen 2; have y3 := KS0.frozen 3; have y4 := KS0.frozen 4; have y5 := KS0.frozen 5; have y6 := KS0.frozen 6; have y7 := KS0.frozen 7
  have ls := KS0.lt
  have HK := hide (And.intro KS0 KR0)
  clear hA KS0 KR0
  rw [rounds_succ]
  go_wp2_with fail
  refine name_world fun X0 hW => ?_
  have C1 : Chg [] w X0 := by subst hW; (repeat' (first | with_reducible exact C0 | with_reducible exact Chg.refl _ _ | with_reducible refine Chg.alloc ?_ _ | with_reducible refine Chg.drew ?_ | with_reducible refine Chg.drewN ?_ _ | with_reducible refine Chg.set_ ?_ _ _ (by first | (simp; done) | (simp; omega) | omega)))
  have CW : Chg [] W0 X0 := by subst hW; (repeat' (first | with_reducible exact Chg.refl _ _ | with_reducible refine Chg.alloc ?_ _ | with_reducible refine Chg.drew ?_ | with_reducible refine Chg.drewN ?_ _ | with_reducible refine Chg.set_ ?_ _ _ (by first | (simp; done) | (simp; omega) | omega)))
  have KN : Blk X0 W0.heap.size 61 #[.int .i64 1, .string ⟨#[97]⟩, .string ⟨#[]⟩, .slice none 0 0, .slice none 0 0, .slice none 0 0, .int .i64 0, .int .i64 0, .int .i64 0] := by subst hW; (repeat' (first | with_reducible exact Blk.new_ (by first | rfl | (simp; done) | (simp; omega)) | with_reducible refine Blk.alloc_ ?_ | with_reducible refine Blk.drew ?_ | with_reducible refine Blk.drewN ?_ _ | with_reducible refine Blk.far_ ?_ (by first | (simp; done) | (simp; omega) | omega) | with_reducible apply Blk.set_eq | rfl))
  have KS := HK.out.1.chg CW (by simp)
  have KR := HK.out.2.chg CW (by simp)
  have HO1 := hide (own_chg HO0.out CW (by simp))
  clear hW HK HO0 n0 n1 n2 n3 n4 n5 n6 n7 n8 s0 s1 s2 s3 s4 s5 s6 s7 y0 y1 y2 y3 y4 y5 y6 y7 lg ls
  refine (feed17_ex 97 (.inl rfl) X0).mono ?_
  rintro e Y0 ⟨rfl, hb2⟩
  have C2 := C1.below hb2
  have KN2 := KN.below hb2 KN.lt
  have KS2 := KS.below hb2 KS.lt
  have HR2 := hide (KR.below hb2 KR.lt)
  have HO2 := hide (own_chg HO1.out (Chg.of_below (S := []) hb2) (by simp))
  have hz2 : w.heap.size + 2 ≤ Y0.heap.size := by have := CW.size; have := hb2.size; omega
  have hz3 : W0.heap.size < Y0.heap.size := KN2.lt
  clear KN KS KR HO1 hb2 C1 CW C0
  have n0 := KN2.cell 0; have n1 := KN2.cell 1; have n2 := KN2.cell 2; have n3 := KN2.cell 3; have n4 := KN2.cell 4; have n5 := KN2.cell 5; have n6 := KN2.cell 6; have n7 := KN2.cell 7; have n8 := KN2.cell 8; simp at n0 n1 n2 n3 n4 n5 n6 n7 n8
  have m0 := KN2.frozen 0; have m1 := KN2.frozen 1; have m2 := KN2.frozen 2; have m3 := KN2.frozen 3; have m4 := KN2.frozen 4; have m5 := KN2.frozen 5; have m6 := KN2.frozen 6; have m7 := KN2.frozen 7; have m8 := KN2.frozen 8
  have s0 := KS2.cell 0; have s1 := KS2.cell 1; have s2 := KS2.cell 2; have s3 := KS2.cell 3; have s4 := KS2.cell 4; have s5 := KS2.cell 5; have s6 := KS2.cell 6; have s7 := KS2.cell 7; simp at s0 s1 s2 s3 s4 s5 s6 s7
  have y0 := KS2.frozen 0; have y1 := KS2.frozen 1; have y2 := KS2.frozen 2; have y3 := KS2.frozen 3; have y4 := KS2.frozen 4; have y5 := KS2.frozen 5; have y6 := KS2.frozen 6; have y7 := KS2.frozen 7
  have ln := KN2.lt; have ls := KS2.lt
  have HS2 := hide KS2
  clear KN2 KS2
  go_wp2_with (at_builtin; refine wpList_append_own _ rfl _ _ 41 rfl (w.heap.size + 2) 61 i0 (.agg #[.int .i64 0, .string ⟨#[]⟩, .string ⟨#[]⟩, .slice none 0 0, .slice none 0 0, .slice none 0 0, .int .i64 0, .int .i64 0, .int .i64 0]) 9 136 Tryz.underlying41 hi hz0 hz1 hz2' rfl (by decide) _ 0 _ rfl (own_chg HO2.out (S := [w.heap.size, W0.heap.size]) (by (repeat' (first | with_reducible exact Chg.refl _ _ | with_reducible refine Chg.alloc ?_ _ | with_reducible refine Chg.drew ?_ | with_reducible refine Chg.drewN ?_ _ | with_reducible refine Chg.set_ ?_ _ _ (by first | (simp; done) | (simp; omega) | omega)))) (by intro k hk hm; have := (HO2.out.lt k hk).1; have := HL.out k hk; simp at hm; omega)) ⟨Y0.heap.size, 0, none⟩ 1 1 [.int .i64 1, .string ⟨#[97]⟩, .string ⟨#[]⟩, .slice none 0 0, .slice none 0 0, .slice none 0 0, .int .i64 0, .int .i64 0, .int .i64 0] rfl rfl (by intro j u hj; rw [zaddE]; exact (AtB.of_blk (t := 61) (cs := [.int .i64 1, .string ⟨#[97]⟩, .string ⟨#[]⟩, .slice none 0 0, .slice none 0 0, .slice none 0 0, .int .i64 0, .int .i64 0, .int .i64 0]) (by (repeat' (first | with_reducible exact Blk.new_ (by first | rfl | (simp; done) | (simp; omega)) | with_reducible refine Blk.alloc_ ?_ | with_reducible refine Blk.drew ?_ | with_reducible refine Blk.drewN ?_ _ | with_reducible refine Blk.far_ ?_ (by first | (simp; done) | (simp; omega) | omega) | with_reducible apply Blk.set_eq | rfl)))).cell j u hj) (by intro u hu; simp at hu; rcases hu with rfl | rfl | rfl | rfl | rfl | rfl | rfl | rfl | rfl <;> rfl) (by unfold maxLen; omega) (by omega) (by simp; omega) ?_; intro v4 W1 hown4 hgrow4 _)
  have C4 : Chg [] w W1 := Chg.grown (by (repeat' (first | with_reducible exact C2 | with_reducible exact Chg.refl _ _ | with_reducible refine Chg.alloc ?_ _ | with_reducible refine Chg.drew ?_ | with_reducible refine Chg.drewN ?_ _ | with_reducible refine Chg.set_ ?_ _ _ (by first | (simp; done) | (simp; omega) | omega)))) hgrow4 (fun k hk => .inr (by have := (HO2.out.lt k hk).1; omega))
  have hne : ∀ k, k < w.heap.size + 2 → some k ≠ (.slice none 0 0 : Value).ownBlock := fun k hk e => by have := (HO2.out.lt k e.symm).1; omega
  have KS0 : Blk W1 w.heap.size 57 st0c := Blk.grown (by (repeat' (first | with_reducible exact HS2.out | with_reducible exact Blk.new_ (by first | rfl | (simp; done) | (simp; omega)) | with_reducible refine Blk.alloc_ ?_ | with_reducible refine Blk.drew ?_ | with_reducible refine Blk.drewN ?_ _ | with_reducible refine Blk.far_ ?_ (by first | (simp; done) | (simp; omega) | omega) | with_reducible apply Blk.set_eq | rfl))) hgrow4 (hne _ (by omega))
  have KR0 : Blk W1 (w.heap.size + 1) 57 st0c := Blk.grown (by (repeat' (first | with_reducible exact HR2.out | with_reducible exact Blk.new_ (by first | rfl | (simp; done) | (simp; omega)) | with_reducible refine Blk.alloc_ ?_ | with_reducible refine Blk.drew ?_ | with_reducible refine Blk.drewN ?_ _ | with_reducible refine Blk.far_ ?_ (by first | (simp; done) | (simp; omega) | omega) | with_reducible apply Blk.set_eq | rfl))) hgrow4 (hne _ (by omega))
  obtain ⟨A1, c1, rfl⟩ := own_sliceE hown4
  have HO0 := hide hown4
  clear hz
  have hz : w.heap.size + 2 ≤ W1.heap.size := by have := KR0.lt; omega
  clear hown4 hgrow4 hne HS2 HR2 HO2 HL C2 n0 n1 n2 n3 n4 n5 n6 n7 n8 m0 m1 m2 m3 m4 m5 m6 m7 m8 s0 s1 s2 s3 s4 s5 s6 s7 y0 y1 y2 y3 y4 y5 y6 y7 ln ls hz2 hz3
  have C0 := C4
  clear C4
  go_wp2_with fail

  have hA := Hh.out.chg C0 (by simp)
  have n0 := hA.cell 9 _ rfl; have n1 := hA.cell 10 _ rfl; have n2 := hA.cell 11 _ rfl; have n3 := hA.cell 12 _ rfl; have n4 := hA.cell 13 _ rfl; have n5 := hA.cell 14 _ rfl; have n6 := hA.cell 15 _ rfl; have n7 := hA.cell 16 _ rfl; have n8 := hA.cell 17 _ rfl
  have lg := hA.lt
  have hlt : ∀ k, (Value.slice A1 (0 + 1) c1).ownBlock = some k → k < W1.heap.size := fun k hk => (HO0.out.lt k hk).2
  have HL := hide hlt
  clear hlt
  have s0 := KS0.cell 0; have s1 := KS0.cell 1; have s2 := KS0.cell 2; have s3 := KS0.cell 3; have s4 := KS0.cell 4; have s5 := KS0.cell 5; have s6 := KS0.cell 6; have s7 := KS0.cell 7; simp at s0 s1 s2 s3 s4 s5 s6 s7
  have y0 := KS0.frozen 0; have y1 := KS0.frozen 1; have y2 := KS0.frozen 2; have y3 := KS0.frozen 3; have y4 := KS0.frozen 4; have y5 := KS0.frozen 5; have y6 := KS0.frozen 6; have y7 := KS0.frozen 7
  have ls := KS0.lt
  have HK := hide (And.intro KS0 KR0)
  clear hA KS0 KR0
  rw [rounds_succ]
  go_wp2_with fail
  refine name_world fun X1 hW => ?_
  have C1 : Chg [] w X1 := by subst hW; (repeat' (first | with_reducible exact C0 | with_reducible exact Chg.refl _ _ | with_reducible refine Chg.alloc ?_ _ | with_reducible refine Chg.drew ?_ | with_reducible refine Chg.drewN ?_ _ | with_reducible refine Chg.set_ ?_ _ _ (by first | (simp; done) | (simp; omega) | omega)))
  have CW : Chg [] W1 X1 := by subst hW; (repeat' (first | with_reducible exact Chg.refl _ _ | with_reducible refine Chg.alloc ?_ _ | with_reducible refine Chg.drew ?_ | with_reducible refine Chg.drewN ?_ _ | with_reducible refine Chg.set_ ?_ _ _ (by first | (simp; done) | (simp; omega) | omega)))
  have KN : Blk X1 W1.heap.size 61 #[.int .i64 2, .string ⟨#[]⟩, .string ⟨#[]⟩, .slice (some ⟨gp, 0, none⟩) 1 cp, .slice none 0 0, .slice none 0 0, .int .i64 1, .int .i64 0, .int .i64 0] := by subst hW; (repeat' (first | with_reducible exact Blk.new_ (by first | rfl | (simp; done) | (simp; omega)) | with_reducible refine Blk.alloc_ ?_ | with_reducible refine Blk.drew ?_ | with_reducible refine Blk.drewN ?_ _ | with_reducible refine Blk.far_ ?_ (by first | (simp; done) | (simp; omega) | omega) | with_reducible apply Blk.set_eq | rfl))
  have KS := HK.out.1.chg CW (by simp)
  have KR := HK.out.2.chg CW (by simp)
  have HO1 := hide (own_chg HO0.out CW (by simp))
  clear hW HK HO0 n0 n1 n2 n3 n4 n5 n6 n7 n8 s0 s1 s2 s3 s4 s5 s6 s7 y0 y1 y2 y3 y4 y5 y6 y7 lg ls
  refine (hole17_ex X1).mono ?_
  rintro e Y1 ⟨rfl, hb2⟩
  have C2 := C1.below hb2
  have KN2 := KN.below hb2 KN.lt
  have KS2 := KS.below hb2 KS.lt
  have HR2 := hide (KR.below hb2 KR.lt)
  have HO2 := hide (own_chg HO1.out (Chg.of_below (S := []) hb2) (by simp))
  have hz2 : w.heap.size + 2 ≤ Y1.heap.size := by have := CW.size; have := hb2.size; omega
  have hz3 : W1.heap.size < Y1.heap.size := KN2.lt
  clear KN KS KR HO1 hb2 C1 CW C0
  have n0 := KN2.cell 0; have n1 := KN2.cell 1; have n2 := KN2.cell 2; have n3 := KN2.cell 3; have n4 := KN2.cell 4; have n5 := KN2.cell 5; have n6 := KN2.cell 6; have n7 := KN2.cell 7; have n8 := KN2.cell 8; simp at n0 n1 n2 n3 n4 n5 n6 n7 n8
  have m0 := KN2.frozen 0; have m1 := KN2.frozen 1; have m2 := KN2.frozen 2; have m3 := KN2.frozen 3; have m4 := KN2.frozen 4; have m5 := KN2.frozen 5; have m6 := KN2.frozen 6; have m7 := KN2.frozen 7; have m8 := KN2.frozen 8
  have s0 := KS2.cell 0; have s1 := KS2.cell 1; have s2 := KS2.cell 2; have s3 := KS2.cell 3; have s4 := KS2.cell 4; have s5 := KS2.cell 5; have s6 := KS2.cell 6; have s7 := KS2.cell 7; simp at s0 s1 s2 s3 s4 s5 s6 s7
  have y0 := KS2.frozen 0; have y1 := KS2.frozen 1; have y2 := KS2.frozen 2; have y3 := KS2.frozen 3; have y4 := KS2.frozen 4; have y5 := KS2.frozen 5; have y6 := KS2.frozen 6; have y7 := KS2.frozen 7
  have ln := KN2.lt; have ls := KS2.lt
  have HS2 := hide KS2
  clear KN2 KS2
  go_wp2_with (at_builtin; refine wpList_append_own _ rfl _ _ 41 rfl (w.heap.size + 2) 61 i0 (.agg #[.int .i64 0, .string ⟨#[]⟩, .string ⟨#[]⟩, .slice none 0 0, .slice none 0 0, .slice none 0 0, .int .i64 0, .int .i64 0, .int .i64 0]) 9 136 Tryz.underlying41 hi hz0 hz1 hz2' rfl (by decide) _ 1 _ rfl (own_chg HO2.out (S := [w.heap.size, W1.heap.size]) (by (repeat' (first | with_reducible exact Chg.refl _ _ | with_reducible refine Chg.alloc ?_ _ | with_reducible refine Chg.drew ?_ | with_reducible refine Chg.drewN ?_ _ | with_reducible refine Chg.set_ ?_ _ _ (by first | (simp; done) | (simp; omega) | omega)))) (by intro k hk hm; have := (HO2.out.lt k hk).1; have := HL.out k hk; simp at hm; omega)) ⟨Y1.heap.size, 0, none⟩ 1 1 [.int .i64 2, .string ⟨#[]⟩, .string ⟨#[]⟩, .slice (some ⟨gp, 0, none⟩) 1 cp, .slice none 0 0, .slice none 0 0, .int .i64 1, .int .i64 1, .int .i64 0] rfl rfl (by intro j u hj; rw [zaddE]; exact (AtB.of_blk (t := 61) (cs := [.int .i64 2, .string ⟨#[]⟩, .string ⟨#[]⟩, .slice (some ⟨gp, 0, none⟩) 1 cp, .slice none 0 0, .slice none 0 0, .int .i64 1, .int .i64 1, .int .i64 0]) (by (repeat' (first | with_reducible exact Blk.new_ (by first | rfl | (simp; done) | (simp; omega)) | with_reducible refine Blk.alloc_ ?_ | with_reducible refine Blk.drew ?_ | with_reducible refine Blk.drewN ?_ _ | with_reducible refine Blk.far_ ?_ (by first | (simp; done) | (simp; omega) | omega) | with_reducible apply Blk.set_eq | rfl)))).cell j u hj) (by intro u hu; simp at hu; rcases hu with rfl | rfl | rfl | rfl | rfl | rfl | rfl | rfl | rfl <;> rfl) (by unfold maxLen; omega) (by omega) (by simp; omega) ?_; intro v4 W2 hown4 hgrow4 _)
  have C4 : Chg [] w W2 := Chg.grown (by (repeat' (first | with_reducible exact C2 | with_reducible exact Chg.refl _ _ | with_reducible refine Chg.alloc ?_ _ | with_reducible refine Chg.drew ?_ | with_reducible refine Chg.drewN ?_ _ | with_reducible refine Chg.set_ ?_ _ _ (by first | (simp; done) | (simp; omega) | omega)))) hgrow4 (fun k hk => .inr (by have := (HO2.out.lt k hk).1; omega))
  have hne : ∀ k, k < w.heap.size + 2 → some k ≠ (Value.slice A1 (0 + 1) c1).ownBlock := fun k hk e => by have := (HO2.out.lt k e.symm).1; omega
  have KS0 : Blk W2 w.heap.size 57 st0c := Blk.grown (by (repeat' (first | with_reducible exact HS2.out | with_reducible exact Blk.new_ (by first | rfl | (simp; done) | (simp; omega)) | with_reducible refine Blk.alloc_ ?_ | with_reducible refine Blk.drew ?_ | with_reducible refine Blk.drewN ?_ _ | with_reducible refine Blk.far_ ?_ (by first | (simp; done) | (simp; omega) | omega) | with_reducible apply Blk.set_eq | rfl))) hgrow4 (hne _ (by omega))
  have KR0 : Blk W2 (w.heap.size + 1) 57 st0c := Blk.grown (by (repeat' (first | with_reducible exact HR2.out | with_reducible exact Blk.new_ (by first | rfl | (simp; done) | (simp; omega)) | with_reducible refine Blk.alloc_ ?_ | with_reducible refine Blk.drew ?_ | with_reducible refine Blk.drewN ?_ _ | with_reducible refine Blk.far_ ?_ (by first | (simp; done) | (simp; omega) | omega) | with_reducible apply Blk.set_eq | rfl))) hgrow4 (hne _ (by omega))
  obtain ⟨A2, c2, rfl⟩ := own_sliceE hown4
  have HO0 := hide hown4
  clear hz
  have hz : w.heap.size + 2 ≤ W2.heap.size := by have := KR0.lt; omega
  clear hown4 hgrow4 hne HS2 HR2 HO2 HL C2 n0 n1 n2 n3 n4 n5 n6 n7 n8 m0 m1 m2 m3 m4 m5 m6 m7 m8 s0 s1 s2 s3 s4 s5 s6 s7 y0 y1 y2 y3 y4 y5 y6 y7 ln ls hz2 hz3
  have C0 := C4
  clear C4
  go_wp2_with fail

  have hA := Hh.out.chg C0 (by simp)
  have n0 := hA.cell 18 _ rfl; have n1 := hA.cell 19 _ rfl; have n2 := hA.cell 20 _ rfl; have n3 := hA.cell 21 _ rfl; have n4 := hA.cell 22 _ rfl; have n5 := hA.cell 23 _ rfl; have n6 := hA.cell 24 _ rfl; have n7 := hA.cell 25 _ rfl; have n8 := hA.cell 26 _ rfl
  have lg := hA.lt
  have hlt : ∀ k, (Value.slice A2 (1 + 1) c2).ownBlock = some k → k < W2.heap.size := fun k hk => (HO0.out.lt k hk).2
  have HL := hide hlt
  clear hlt
  have s0 := KS0.cell 0; have s1 := KS0.cell 1; have s2 := KS0.cell 2; have s3 := KS0.cell 3; have s4 := KS0.cell 4; have s5 := KS0.cell 5; have s6 := KS0.cell 6; have s7 := KS0.cell 7; simp at s0 s1 s2 s3 s4 s5 s6 s7
  have y0 := KS0.frozen 0; have y1 := KS0.frozen 1; have y2 := KS0.frozen 2; have y3 := KS0.frozen 3; have y4 := KS0.frozen 4; have y5 := KS0.frozen 5; have y6 := KS0.frozen 6; have y7 := KS0.frozen 7
  have ls := KS0.lt
  have HK := hide (And.intro KS0 KR0)
  clear hA KS0 KR0
  rw [rounds_succ]
  go_wp2_with fail
  refine name_world fun X2 hW => ?_
  have C1 : Chg [] w X2 := by subst hW; (repeat' (first | with_reducible exact C0 | with_reducible exact Chg.refl _ _ | with_reducible refine Chg.alloc ?_ _ | with_reducible refine Chg.drew ?_ | with_reducible refine Chg.drewN ?_ _ | with_reducible refine Chg.set_ ?_ _ _ (by first | (simp; done) | (simp; omega) | omega)))
  have CW : Chg [] W2 X2 := by subst hW; (repeat' (first | with_reducible exact Chg.refl _ _ | with_reducible refine Chg.alloc ?_ _ | with_reducible refine Chg.drew ?_ | with_reducible refine Chg.drewN ?_ _ | with_reducible refine Chg.set_ ?_ _ _ (by first | (simp; done) | (simp; omega) | omega)))
  have KN : Blk X2 W2.heap.size 61 #[.int .i64 1, .string ⟨#[99]⟩, .string ⟨#[]⟩, .slice none 0 0, .slice none 0 0, .slice none 0 0, .int .i64 8, .int .i64 0, .int .i64 0] := by subst hW; (repeat' (first | with_reducible exact Blk.new_ (by first | rfl | (simp; done) | (simp; omega)) | with_reducible refine Blk.alloc_ ?_ | with_reducible refine Blk.drew ?_ | with_reducible refine Blk.drewN ?_ _ | with_reducible refine Blk.far_ ?_ (by first | (simp; done) | (simp; omega) | omega) | with_reducible apply Blk.set_eq | rfl))
  have KS := HK.out.1.chg CW (by simp)
  have KR := HK.out.2.chg CW (by simp)
  have HO1 := hide (own_chg HO0.out CW (by simp))
  clear hW HK HO0 n0 n1 n2 n3 n4 n5 n6 n7 n8 s0 s1 s2 s3 s4 s5 s6 s7 y0 y1 y2 y3 y4 y5 y6 y7 lg ls
  refine (feed17_ex 99 (.inr rfl) X2).mono ?_
  rintro e Y2 ⟨rfl, hb2⟩
  have C2 := C1.below hb2
  have KN2 := KN.below hb2 KN.lt
  have KS2 := KS.below hb2 KS.lt
  have HR2 := hide (KR.below hb2 KR.lt)
  have HO2 := hide (own_chg HO1.out (Chg.of_below (S := []) hb2) (by simp))
  have hz2 : w.heap.size + 2 ≤ Y2.heap.size := by have := CW.size; have := hb2.size; omega
  have hz3 : W2.heap.size < Y2.heap.size := KN2.lt
  clear KN KS KR HO1 hb2 C1 CW C0
  have n0 := KN2.cell 0; have n1 := KN2.cell 1; have n2 := KN2.cell 2; have n3 := KN2.cell 3; have n4 := KN2.cell 4; have n5 := KN2.cell 5; have n6 := KN2.cell 6; have n7 := KN2.cell 7; have n8 := KN2.cell 8; simp at n0 n1 n2 n3 n4 n5 n6 n7 n8
  have m0 := KN2.frozen 0; have m1 := KN2.frozen 1; have m2 := KN2.frozen 2; have m3 := KN2.frozen 3; have m4 := KN2.frozen 4; have m5 := KN2.frozen 5; have m6 := KN2.frozen 6; have m7 := KN2.frozen 7; have m8 := KN2.frozen 8
  have s0 := KS2.cell 0; have s1 := KS2.cell 1; have s2 := KS2.cell 2; have s3 := KS2.cell 3; have s4 := KS2.cell 4; have s5 := KS2.cell 5; have s6 := KS2.cell 6; have s7 := KS2.cell 7; simp at s0 s1 s2 s3 s4 s5 s6 s7
  have y0 := KS2.frozen 0; have y1 := KS2.frozen 1; have y2 := KS2.frozen 2; have y3 := KS2.frozen 3; have y4 := KS2.frozen 4; have y5 := KS2.frozen 5; have y6 := KS2.frozen 6; have y7 := KS2.frozen 7
  have ln := KN2.lt; have ls := KS2.lt
  have HS2 := hide KS2
  clear KN2 KS2
  go_wp2_with (at_builtin; refine wpList_append_own _ rfl _ _ 41 rfl (w.heap.size + 2) 61 i0 (.agg #[.int .i64 0, .string ⟨#[]⟩, .string ⟨#[]⟩, .slice none 0 0, .slice none 0 0, .slice none 0 0, .int .i64 0, .int .i64 0, .int .i64 0]) 9 136 Tryz.underlying41 hi hz0 hz1 hz2' rfl (by decide) _ 2 _ rfl (own_chg HO2.out (S := [w.heap.size, W2.heap.size]) (by (repeat' (first | with_reducible exact Chg.refl _ _ | with_reducible refine Chg.alloc ?_ _ | with_reducible refine Chg.drew ?_ | with_reducible refine Chg.drewN ?_ _ | with_reducible refine Chg.set_ ?_ _ _ (by first | (simp; done) | (simp; omega) | omega)))) (by intro k hk hm; have := (HO2.out.lt k hk).1; have := HL.out k hk; simp at hm; omega)) ⟨Y2.heap.size, 0, none⟩ 1 1 [.int .i64 1, .string ⟨#[99]⟩, .string ⟨#[]⟩, .slice none 0 0, .slice none 0 0, .slice none 0 0, .int .i64 8, .int .i64 0, .int .i64 0] rfl rfl (by intro j u hj; rw [zaddE]; exact (AtB.of_blk (t := 61) (cs := [.int .i64 1, .string ⟨#[99]⟩, .string ⟨#[]⟩, .slice none 0 0, .slice none 0 0, .slice none 0 0, .int .i64 8, .int .i64 0, .int .i64 0]) (by (repeat' (first | with_reducible exact Blk.new_ (by first | rfl | (simp; done) | (simp; omega)) | with_reducible refine Blk.alloc_ ?_ | with_reducible refine Blk.drew ?_ | with_reducible refine Blk.drewN ?_ _ | with_reducible refine Blk.far_ ?_ (by first | (simp; done) | (simp; omega) | omega) | with_reducible apply Blk.set_eq | rfl)))).cell j u hj) (by intro u hu; simp at hu; rcases hu with rfl | rfl | rfl | rfl | rfl | rfl | rfl | rfl | rfl <;> rfl) (by unfold maxLen; omega) (by omega) (by simp; omega) ?_; intro v4 W3 hown4 hgrow4 _)
  have C4 : Chg [] w W3 := Chg.grown (by (repeat' (first | with_reducible exact C2 | with_reducible exact Chg.refl _ _ | with_reducible refine Chg.alloc ?_ _ | with_reducible refine Chg.drew ?_ | with_reducible refine Chg.drewN ?_ _ | with_reducible refine Chg.set_ ?_ _ _ (by first | (simp; done) | (simp; omega) | omega)))) hgrow4 (fun k hk => .inr (by have := (HO2.out.lt k hk).1; omega))
  have hne : ∀ k, k < w.heap.size + 2 → some k ≠ (Value.slice A2 (1 + 1) c2).ownBlock := fun k hk e => by have := (HO2.out.lt k e.symm).1; omega
  have KS0 : Blk W3 w.heap.size 57 st0c := Blk.grown (by (repeat' (first | with_reducible exact HS2.out | with_reducible exact Blk.new_ (by first | rfl | (simp; done) | (simp; omega)) | with_reducible refine Blk.alloc_ ?_ | with_reducible refine Blk.drew ?_ | with_reducible refine Blk.drewN ?_ _ | with_reducible refine Blk.far_ ?_ (by first | (simp; done) | (simp; omega) | omega) | with_reducible apply Blk.set_eq | rfl))) hgrow4 (hne _ (by omega))
  have KR0 : Blk W3 (w.heap.size + 1) 57 st0c := Blk.grown (by (repeat' (first | with_reducible exact HR2.out | with_reducible exact Blk.new_ (by first | rfl | (simp; done) | (simp; omega)) | with_reducible refine Blk.alloc_ ?_ | with_reducible refine Blk.drew ?_ | with_reducible refine Blk.drewN ?_ _ | with_reducible refine Blk.far_ ?_ (by first | (simp; done) | (simp; omega) | omega) | with_reducible apply Blk.set_eq | rfl))) hgrow4 (hne _ (by omega))
  obtain ⟨A3, c3, rfl⟩ := own_sliceE hown4
  have HO0 := hide hown4
  clear hz
  have hz : w.heap.size + 2 ≤ W3.heap.size := by have := KR0.lt; omega
  clear hown4 hgrow4 hne HS2 HR2 HO2 HL C2 n0 n1 n2 n3 n4 n5 n6 n7 n8 m0 m1 m2 m3 m4 m5 m6 m7 m8 s0 s1 s2 s3 s4 s5 s6 s7 y0 y1 y2 y3 y4 y5 y6 y7 ln ls hz2 hz3
  have C0 := C4
  clear C4
  go_wp2_with fail

  have HC0 := hide C0
  have s0 := KS0.cell 0; have s1 := KS0.cell 1; have s2 := KS0.cell 2; have s3 := KS0.cell 3; have s4 := KS0.cell 4; have s5 := KS0.cell 5; have s6 := KS0.cell 6; have s7 := KS0.cell 7; simp at s0 s1 s2 s3 s4 s5 s6 s7
  have r0 := KR0.cell 0; have r1 := KR0.cell 1; have r2 := KR0.cell 2; have r3 := KR0.cell 3; have r4 := KR0.cell 4; have r5 := KR0.cell 5; have r6 := KR0.cell 6; have r7 := KR0.cell 7; simp at r0 r1 r2 r3 r4 r5 r6 r7
  have z0 := KR0.frozen 0; have z1 := KR0.frozen 1; have z2 := KR0.frozen 2; have z3 := KR0.frozen 3; have z4 := KR0.frozen 4; have z5 := KR0.frozen 5; have z6 := KR0.frozen 6; have z7 := KR0.frozen 7
  have ls := KS0.lt; have lr := KR0.lt
  have HK := hide KR0
  clear KS0 KR0 C0
  rw [rounds_succ]
  go_wp2_with fail
  go_region
  all_goals
    go_wp2_with fail
    refine name_post fun W4 hW4 => ?_
    have C5 : Chg [] w W4 := by have C4 := HC0.out; subst hW4; (repeat' (first | with_reducible exact C4 | with_reducible exact Chg.refl _ _ | with_reducible refine Chg.alloc ?_ _ | with_reducible refine Chg.drew ?_ | with_reducible refine Chg.drewN ?_ _ | with_reducible refine Chg.set_ ?_ _ _ (by first | (simp; done) | (simp; omega) | omega)))
    have C6 : Chg [w.heap.size + 1] W3 W4 := by subst hW4; (repeat' (first | with_reducible exact Chg.refl _ _ | with_reducible refine Chg.alloc ?_ _ | with_reducible refine Chg.drew ?_ | with_reducible refine Chg.drewN ?_ _ | with_reducible refine Chg.set_ ?_ _ _ (by first | (simp; done) | (simp; omega) | omega)))
    have KR4 : Blk W4 (w.heap.size + 1) 57 st0c := by subst hW4; (repeat' (first | with_reducible exact HK.out | with_reducible exact Blk.new_ (by first | rfl | (simp; done) | (simp; omega)) | with_reducible refine Blk.alloc_ ?_ | with_reducible refine Blk.drew ?_ | with_reducible refine Blk.drewN ?_ _ | with_reducible refine Blk.far_ ?_ (by first | (simp; done) | (simp; omega) | omega) | with_reducible apply Blk.set_eq | rfl))
    have HO4 := hide (own_chg HO0.out C6 (by intro k hk hm; have := (HO0.out.lt k hk).1; simp at hm; omega))
    clear hW4 r0 r1 r2 r3 r4 r5 r6 r7 z0 z1 z2 z3 z4 z5 z6 z7 s0 s1 s2 s3 s4 s5 s6 s7 ls lr HC0
    have r0 := KR4.cell 0; have r1 := KR4.cell 1; have r2 := KR4.cell 2; have r3 := KR4.cell 3; have r4 := KR4.cell 4; have r5 := KR4.cell 5; have r6 := KR4.cell 6; have r7 := KR4.cell 7; simp at r0 r1 r2 r3 r4 r5 r6 r7
    simp [bodyPost, results, Tryz.results84, go_sem, r0, r1, r2, r3, r4, r5, r6, r7]
    exact ⟨HO4.out, C5.bel⟩
end Go.Proofs.YtnepogddjinpoaaGreatDoor
