/-
  PLAIN LAWS of many texts, in one.
-/
import Derived.Test.YtnepogddjinpoaaGreatDoorExNodes2
import Derived.Test.YtnepogddjinpoaaGreatDoorM1
namespace Go.Proofs.YtnepogddjinpoaaGreatDoor
open Go.RowKit
set_option linter.unusedVariables false
set_option linter.unusedSimpArgs false

end Go.Proofs.YtnepogddjinpoaaGreatDoor

namespace Go.Proofs.YtnepogddjinpoaaGreatDoor
open Go.RowKit
set_option linter.unusedVariables false
set_option linter.unusedSimpArgs false

abbrev exText : ByteArray := ⟨#[97, 123, 123, 34, 98, 34, 125, 125, 99]⟩
/-- The example's templates: one, of three nodes. -/
structure ExD (w : World) (N gd g c : Nat) (vp : Value) : Prop where
  d : AtB w gd [.string ⟨#[]⟩, .slice (some ⟨g, 0, none⟩) 3 c]
  n : AtB w g (exNodes vp)
  p : ExPipe w N vp
  gdN : N ≤ gd
  gN : N ≤ g
theorem AtB.chg {S : List Nat} {w w' : World} {g : Nat} {cs : List Value} (h : AtB w g cs) (c : Chg S w w') (hS : g ∉ S) : AtB w' g cs :=
  ⟨Nat.lt_of_lt_of_le h.lt c.size, fun i v hv => (World.cell?_of_block (c.block g h.lt hS)).trans (h.cell i v hv)⟩
theorem ExPipe.chg {S : List Nat} {w w' : World} {C : Nat} {v : Value} (h : ExPipe w C v) (c : Chg S w w') (hS : ∀ x ∈ S, x < C) : ExPipe w' C v := ((ExP.of h).chg c fun x hx => .inl (hS x hx)).pipe (Nat.le_refl _)
theorem ExD.chg {S : List Nat} {w w' : World} {N gd g c : Nat} {vp : Value} (h : ExD w N gd g c vp) (k : Chg S w w') (hS : ∀ x ∈ S, x < N) : ExD w' N gd g c vp :=
  ⟨h.d.chg k (fun hm => by have := hS _ hm; have := h.gdN; omega), h.n.chg k (fun hm => by have := hS _ hm; have := h.gN; omega), h.p.chg k hS, h.gdN, h.gN⟩
set_option maxHeartbeats 4000000 in
set_option maxRecDepth 100000 in
theorem parse20_ex (w : World) : Calls Tryz.prog 32 #[.string exText] w fun e w' => ∃ gd g c vp, e = .returned (.tuple #[.slice (some ⟨gd, 0, none⟩) 1 1, .int .i64 9, .int .i64 0]) ∧ ExD w' w.heap.size gd g c vp ∧ Below w.heap.size w w' := by
  go_enter Tryz.func32, Tryz.ntmps32
  go_wp2_with fail
  refine (items_ex _).mono ?_
  rintro e w1 ⟨v1, rfl, hown1, hb1⟩
  obtain ⟨g, c, rfl, hc, hg, hA⟩ := AtB.of_own hown1 (by decide)
  have C1 : Chg [] w w1 := Chg.of_below hb1
  clear hown1 hb1
  go_wp2_with fail
  refine name_world fun W hW => ?_
  have C2 : Chg [] w W := by subst hW; (repeat' (first | with_reducible exact C1 | with_reducible exact Chg.refl _ _ | with_reducible refine Chg.alloc ?_ _ | with_reducible refine Chg.drew ?_ | with_reducible refine Chg.drewN ?_ _ | with_reducible refine Chg.set_ ?_ _ _ (by first | (simp; done) | (simp; omega) | omega)))
  have hs : W.heap.size = w1.heap.size + 2 := by subst hW; simp
  have K : Blk W (w1.heap.size + 1) 104 #[.slice (some ⟨g, 0, none⟩) 3 c, .int .i64 0, .int .i64 9, .slice (some ⟨w1.heap.size, 0, none⟩) 1 1, .int .i64 0, .int .i64 0] := by subst hW; (repeat' (first | with_reducible exact Blk.new_ (by first | rfl | (simp; done) | (simp; omega)) | with_reducible refine Blk.alloc_ ?_ | with_reducible refine Blk.drew ?_ | with_reducible refine Blk.drewN ?_ _ | with_reducible refine Blk.far_ ?_ (by first | (simp; done) | (simp; omega) | omega) | with_reducible apply Blk.set_eq | rfl))
  have KD : Blk W w1.heap.size 102 #[.string ⟨#[]⟩, .slice none 0 0] := by subst hW; (repeat' (first | with_reducible exact Blk.new_ (by first | rfl | (simp; done) | (simp; omega)) | with_reducible refine Blk.alloc_ ?_ | with_reducible refine Blk.drew ?_ | with_reducible refine Blk.drewN ?_ _ | with_reducible refine Blk.far_ ?_ (by first | (simp; done) | (simp; omega) | omega) | with_reducible apply Blk.set_eq | rfl))
  have hA2 : AtB W g exItems := by subst hW; exact (hA.alloc _).alloc _
  have lg := hA.lt
  clear hW hA
  refine (nodes_ex W (w1.heap.size + 1) g c _ _ _ _ K hA2 hc (by omega)).mono ?_
  rintro e w3 ⟨v, vp, L, rfl, hE, N3⟩
  obtain ⟨g3, c3, rfl, _, hg3, hAt⟩ := AtB.of_own N3.own (by decide)
  have C3 : Chg [] w w3 := C2.trans (S' := [w1.heap.size + 1]) ⟨N3.gro.os, N3.gro.tape, N3.gro.output, N3.gro.size, fun b h1 h2 => N3.gro.block b h1 (by intro e; injection e with e; subst e; simp at h2)⟩ (by intro x hx; simp at hx; subst hx; have := C1.size; omega)
  have KD3 : Blk w3 w1.heap.size 102 #[.string ⟨#[]⟩, .slice none 0 0] := KD.grown N3.gro (by simp)
  have KP3 := N3.blk
  have s3 := N3.gro.size
  have s1 := C1.size
  have p0 := KP3.cell 0; have p1 := KP3.cell 1; have p2 := KP3.cell 2; have p3 := KP3.cell 3; have p4 := KP3.cell 4; have p5 := KP3.cell 5; simp at p0 p1 p2 p3 p4 p5
  have z0 := KD3.frozen 0; have z1 := KD3.frozen 1
  have d0 := KD3.cell 0; have d1 := KD3.cell 1; simp at d0 d1
  have l3 := KP3.lt
  have l4 := KD3.lt
  have HC3 := hide C3
  have HAt := hide hAt
  have HE := hide hE
  have HK := hide KD3
  clear C3 hAt N3 K KD KP3 KD3 hA2 C1 C2 hE
  go_wp2_with fail
  go_ret3
  refine ⟨_, g3, c3, vp, rfl, ?_⟩
  refine name_it (C := fun W4 => ExD W4 w.heap.size w1.heap.size g3 c3 vp ∧ Below w.heap.size w W4) fun W4 hW4 => ?_
  have C4 : Chg [w1.heap.size] w3 W4 := by subst hW4; (repeat' (first | with_reducible exact Chg.refl _ _ | with_reducible refine Chg.alloc ?_ _ | with_reducible refine Chg.drew ?_ | with_reducible refine Chg.drewN ?_ _ | with_reducible refine Chg.set_ ?_ _ _ (by first | (simp; done) | (simp; omega) | omega)))
  have KD4 : Blk W4 w1.heap.size 102 #[.string ⟨#[]⟩, .slice (some ⟨g3, 0, none⟩) 3 c3] := by subst hW4; (repeat' (first | with_reducible exact HK.out | with_reducible exact Blk.new_ (by first | rfl | (simp; done) | (simp; omega)) | with_reducible refine Blk.alloc_ ?_ | with_reducible refine Blk.drew ?_ | with_reducible refine Blk.drewN ?_ _ | with_reducible refine Blk.far_ ?_ (by first | (simp; done) | (simp; omega) | omega) | with_reducible apply Blk.set_eq | rfl))
  exact ⟨⟨AtB.of_blk (cs := [.string ⟨#[]⟩, .slice (some ⟨g3, 0, none⟩) 3 c3]) KD4, HAt.out.chg C4 (by simp; omega), (HE.out.chg C4 (by intro x hx; simp at hx; omega)).from_ (by omega), s1, by omega⟩, (HC3.out.trans C4 (by intro x hx; simp at hx; subst hx; exact .inr s1)).bel⟩
end Go.Proofs.YtnepogddjinpoaaGreatDoor

namespace Go.Proofs.YtnepogddjinpoaaGreatDoor
open Go.RowKit
set_option linter.unusedVariables false
set_option linter.unusedSimpArgs false

theorem depth0 (a : Option Addr) (c : Nat) (w : World) : Calls Tryz.prog 80 #[.slice a 0 c] w fun e w' => e = .returned (.int .i64 0) ∧ w = w' := by
  go_enter Tryz.func80, Tryz.ntmps80
  go_wp2_with fail
  refine wp_loop_rounds 1 ?_
  rw [rounds_succ]
  go_wp2_with fail
  go_ret
  exact ⟨rfl, rfl⟩
theorem may0 (a : Option Addr) (c : Nat) (w : World) : Calls Tryz.prog 81 #[.slice a 0 c] w fun e w' => e = .returned (.bool true) ∧ w = w' := by
  go_enter Tryz.func81, Tryz.ntmps81
  go_wp2_with fail
  refine wp_loop_rounds 1 ?_
  rw [rounds_succ]
  go_wp2_with fail
  go_ret
  exact ⟨rfl, rfl⟩
theorem needs0 (d : Value) (a : Option Addr) (c : Nat) (w : World) : Calls Tryz.prog 82 #[d, .slice a 0 c, .slice none 0 0] w fun e w' => e = .returned (.tuple #[.int .i64 0, .int .i64 0]) ∧ w = w' := by
  go_enter Tryz.func82, Tryz.ntmps82
  go_wp2_with fail
  refine wp_loop_rounds 1 ?_
  rw [rounds_succ]
  go_wp2_with fail
  go_ret2
  exact ⟨rfl, rfl⟩
theorem AtB.drewN {w : World} {g : Nat} {cs : List Value} (h : AtB w g cs) (n : Nat) : AtB (w.drewN n) g cs := ⟨h.lt, h.cell⟩
theorem drewN_chg {S : List Nat} (w : World) (n : Nat) : Chg S w (w.drewN n) := (Chg.refl S w).drewN n
set_option maxHeartbeats 2000000 in
set_option maxRecDepth 100000 in
theorem depth_ex (w : World) (g c : Nat) (vp : Value) (h : AtB w g (exNodes vp)) : Calls Tryz.prog 80 #[.slice (some ⟨g, 0, none⟩) 3 c] w fun e w' => e = .returned (.int .i64 1) ∧ Below w.heap.size w w' := by
  have b1 := h.cell 4 _ rfl; have e1 := h.cell 5 _ rfl
  have lg := h.lt
  go_enter Tryz.func80, Tryz.ntmps80
  go_wp2_with fail
  refine wp_loop_rounds 4 ?_
  rw [rounds_succ]
  go_wp2_with fail
  go_quiet ((go_at_call 80; exact Calls.quiet_of ((depth0 _ _ _).mono fun e w' h => ⟨h.1, 0, h.2.symm⟩)))
  go_wp2_with fail
  have h1 := h.drewN nq
  have k1 := drewN_chg (S := []) w nq
  generalize w.drewN nq = w1 at *
  clear b1 e1
  have b2 := h1.cell 13 _ rfl; have e2 := h1.cell 14 _ rfl
  have l1 := h1.lt
  rw [rounds_succ]
  go_wp2_with fail
  go_quiet ((go_at_call 80; exact Calls.quiet_of ((depth0 _ _ _).mono fun e w' h => ⟨h.1, 0, h.2.symm⟩)))
  go_wp2_with fail
  have h2 := h1.drewN nq
  have k2 := k1.drewN nq
  generalize w1.drewN nq = w2 at *
  clear b2 e2 h1 k1
  have b3 := h2.cell 22 _ rfl; have e3 := h2.cell 23 _ rfl
  have l2 := h2.lt
  rw [rounds_succ]
  go_wp2_with fail
  go_quiet ((go_at_call 80; exact Calls.quiet_of ((depth0 _ _ _).mono fun e w' h => ⟨h.1, 0, h.2.symm⟩)))
  go_wp2_with fail
  have k3 := k2.drewN nq
  rw [rounds_succ]
  go_wp2_with fail
  go_ret
  exact ⟨rfl, k3.bel⟩
end Go.Proofs.YtnepogddjinpoaaGreatDoor

namespace Go.Proofs.YtnepogddjinpoaaGreatDoor
open Go.RowKit
set_option linter.unusedVariables false
set_option linter.unusedSimpArgs false

theorem name_rounds {P : Program} {c : Code} {Q : Exit → Act → World → Prop} {n : Nat} {a : Act} {w : World} (h : ∀ W, w = W → Code.rounds P c Q n a W) : Code.rounds P c Q n a w := h w rfl
set_option maxHeartbeats 2000000 in
set_option maxRecDepth 100000 in
theorem argMay_ex (w : World) : Calls Tryz.prog 114 #[.agg #[.int .i64 4, .string ⟨#[]⟩, .slice none 0 0, .int .i64 0, .string ⟨#[98]⟩]] w fun e w' => e = .returned (.bool true) ∧ Below w.heap.size w w' := by
  go_enter Tryz.func114, Tryz.ntmps114
  go_wp2_with fail
  refine wp_loop_rounds 1 ?_
  rw [rounds_succ]
  go_wp2_with fail
  go_ret
  exact ⟨rfl, (Chg.bel (by (repeat' (first | with_reducible exact Chg.refl _ _ | with_reducible refine Chg.alloc ?_ _ | with_reducible refine Chg.drew ?_ | with_reducible refine Chg.drewN ?_ _ | with_reducible refine Chg.set_ ?_ _ _ (by first | (simp; done) | (simp; omega) | omega)))))⟩
set_option maxHeartbeats 2000000 in
set_option maxRecDepth 100000 in
theorem may19_ex (w : World) (C : Nat) (vp : Value) (h : ExPipe w C vp) : Calls Tryz.prog 96 #[vp] w fun e w' => e = .returned (.bool true) ∧ Below w.heap.size w w' := by
  obtain ⟨g, c, g1, rfl, hc, _, _, h1, h2⟩ := h.some_
  have p0 := h1.cell 0 _ rfl; have p1 := h1.cell 1 _ rfl
  have q0 := h2.cell 0 _ rfl; have q1 := h2.cell 1 _ rfl; have q2 := h2.cell 2 _ rfl; have q3 := h2.cell 3 _ rfl; have q4 := h2.cell 4 _ rfl
  have l1 := h1.lt; have l2 := h2.lt
  go_enter Tryz.func96, Tryz.ntmps96
  go_wp2_with fail
  refine wp_loop_rounds 2 ?_
  rw [rounds_succ]
  go_wp2_with fail
  refine wp_loop_rounds 2 ?_
  rw [rounds_succ]
  go_wp2_with fail
  refine (argMay_ex _).mono ?_
  rintro e w1 ⟨rfl, hb1⟩
  have C1 := Chg.of_below (S := []) hb1
  have h11 := h1.chg C1 (by simp)
  have h21 := h2.chg C1 (by simp)
  clear p0 p1 q0 q1 q2 q3 q4 l1 l2 hb1
  have p0 := h11.cell 0 _ rfl; have p1 := h11.cell 1 _ rfl
  have l1 := h11.lt; have l2 := h21.lt
  go_wp2_with fail
  rw [rounds_succ]
  go_wp2_with fail
  rw [rounds_succ]
  go_wp2_with fail
  go_ret
  exact ⟨rfl, C1.bel⟩
set_option maxHeartbeats 4000000 in
set_option maxRecDepth 100000 in
theorem may_ex (w : World) (g c C : Nat) (vp : Value) (h : AtB w g (exNodes vp)) (hp : ExPipe w C vp) : Calls Tryz.prog 81 #[.slice (some ⟨g, 0, none⟩) 3 c] w fun e w' => e = .returned (.bool true) ∧ Below w.heap.size w w' := by
  obtain ⟨gp, cp, gq, hvp, _⟩ := hp.some_
  subst hvp
  have n0 := h.cell 0 _ rfl; have n1 := h.cell 1 _ rfl; have n2 := h.cell 2 _ rfl; have n3 := h.cell 3 _ rfl; have n4 := h.cell 4 _ rfl; have n5 := h.cell 5 _ rfl; have n6 := h.cell 6 _ rfl; have n7 := h.cell 7 _ rfl; have n8 := h.cell 8 _ rfl
  have lg := h.lt
  go_enter Tryz.func81, Tryz.ntmps81
  go_wp2_with fail
  refine wp_loop_rounds 4 ?_
  rw [rounds_succ]
  go_wp2_with (go_at_call 81; refine (may0 _ _ _).mono ?_; rintro e w1 ⟨rfl, rfl⟩)
  refine name_rounds fun W hW => ?_
  have C1 : Chg [] w W := by subst hW; (repeat' (first | with_reducible exact Chg.refl _ _ | with_reducible refine Chg.alloc ?_ _ | with_reducible refine Chg.drew ?_ | with_reducible refine Chg.drewN ?_ _ | with_reducible refine Chg.set_ ?_ _ _ (by first | (simp; done) | (simp; omega) | omega)))
  clear hW n0 n1 n2 n3 n4 n5 n6 n7 n8 lg
  have h1 := h.chg C1 (by simp)
  have hp1 := hp.chg C1 (by simp)
  have n0 := h1.cell 9 _ rfl; have n1 := h1.cell 10 _ rfl; have n2 := h1.cell 11 _ rfl; have n3 := h1.cell 12 _ rfl; have n4 := h1.cell 13 _ rfl; have n5 := h1.cell 14 _ rfl; have n6 := h1.cell 15 _ rfl; have n7 := h1.cell 16 _ rfl; have n8 := h1.cell 17 _ rfl
  have lg := h1.lt
  rw [rounds_succ]
  go_wp2_with fail
  refine name_world fun W2 hW2 => ?_
  have C2 : Chg [] w W2 := by subst hW2; (repeat' (first | with_reducible exact C1 | with_reducible exact Chg.refl _ _ | with_reducible refine Chg.alloc ?_ _ | with_reducible refine Chg.drew ?_ | with_reducible refine Chg.drewN ?_ _ | with_reducible refine Chg.set_ ?_ _ _ (by first | (simp; done) | (simp; omega) | omega)))
  have KN : Blk W2 W.heap.size 61 #[.int .i64 2, .string ⟨#[]⟩, .string ⟨#[]⟩, .slice (some ⟨gp, 0, none⟩) 1 cp, .slice none 0 0, .slice none 0 0, .int .i64 1, .int .i64 0, .int .i64 0] := by subst hW2; (repeat' (first | with_reducible exact Blk.new_ (by first | rfl | (simp; done) | (simp; omega)) | with_reducible refine Blk.alloc_ ?_ | with_reducible refine Blk.drew ?_ | with_reducible refine Blk.drewN ?_ _ | with_reducible refine Blk.far_ ?_ (by first | (simp; done) | (simp; omega) | omega) | with_reducible apply Blk.set_eq | rfl))
  clear hW2 n0 n1 n2 n3 n4 n5 n6 n7 n8 lg h1
  refine (may19_ex W2 C _ (hp.chg C2 (by simp))).mono ?_
  rintro e w3 ⟨rfl, hb3⟩
  have C3 := C2.below hb3
  have KN3 := KN.below hb3 KN.lt
  clear KN hb3 C2 C1 hp1
  have n0 := KN3.cell 0; have n1 := KN3.cell 1; have n2 := KN3.cell 2; have n3 := KN3.cell 3; have n4 := KN3.cell 4; have n5 := KN3.cell 5; have n6 := KN3.cell 6; have n7 := KN3.cell 7; have n8 := KN3.cell 8; simp at n0 n1 n2 n3 n4 n5 n6 n7 n8
  have ln := KN3.lt
  go_wp2_with (go_at_call 81; refine (may0 _ _ _).mono ?_; rintro e w1 ⟨rfl, rfl⟩)
  clear n0 n1 n2 n3 n4 n5 n6 n7 n8 ln KN3
  have h1 := h.chg C3 (by simp)
  have n0 := h1.cell 18 _ rfl; have n1 := h1.cell 19 _ rfl; have n2 := h1.cell 20 _ rfl; have n3 := h1.cell 21 _ rfl; have n4 := h1.cell 22 _ rfl; have n5 := h1.cell 23 _ rfl; have n6 := h1.cell 24 _ rfl; have n7 := h1.cell 25 _ rfl; have n8 := h1.cell 26 _ rfl
  have lg := h1.lt
  rw [rounds_succ]
  go_wp2_with (go_at_call 81; refine (may0 _ _ _).mono ?_; rintro e w1 ⟨rfl, rfl⟩)
  rw [rounds_succ]
  go_wp2_with fail
  go_ret
  exact ⟨rfl, (Chg.bel (by (repeat' (first | with_reducible exact C3 | with_reducible exact Chg.refl _ _ | with_reducible refine Chg.alloc ?_ _ | with_reducible refine Chg.drew ?_ | with_reducible refine Chg.drewN ?_ _ | with_reducible refine Chg.set_ ?_ _ _ (by first | (simp; done) | (simp; omega) | omega)))))⟩
set_option maxHeartbeats 4000000 in
set_option maxRecDepth 100000 in
theorem needs_ex (w : World) (d : Value) (g c C : Nat) (vp : Value) (h : AtB w g (exNodes vp)) (hp : ExPipe w C vp) : Calls Tryz.prog 82 #[d, .slice (some ⟨g, 0, none⟩) 3 c, .slice none 0 0] w fun e w' => e = .returned (.tuple #[.int .i64 0, .int .i64 0]) ∧ Below w.heap.size w w' := by
  obtain ⟨gp, cp, gq, hvp, hcp, _, _, hp1, hp2⟩ := hp.some_
  subst hvp
  have n0 := h.cell 0 _ rfl; have n1 := h.cell 1 _ rfl; have n2 := h.cell 2 _ rfl; have n3 := h.cell 3 _ rfl; have n4 := h.cell 4 _ rfl; have n5 := h.cell 5 _ rfl; have n6 := h.cell 6 _ rfl; have n7 := h.cell 7 _ rfl; have n8 := h.cell 8 _ rfl
  have lg := h.lt
  go_enter Tryz.func82, Tryz.ntmps82
  go_wp2_with fail
  refine wp_loop_rounds 4 ?_
  rw [rounds_succ]
  go_wp2_with fail
  refine wp_loop_rounds 1 ?_
  rw [rounds_succ]
  go_wp2_with (go_at_call 82; refine (needs0 _ _ _ _).mono ?_; rintro e w1 ⟨rfl, rfl⟩)
  refine name_rounds fun W hW => ?_
  have C1 : Chg [] w W := by subst hW; (repeat' (first | with_reducible exact Chg.refl _ _ | with_reducible refine Chg.alloc ?_ _ | with_reducible refine Chg.drew ?_ | with_reducible refine Chg.drewN ?_ _ | with_reducible refine Chg.set_ ?_ _ _ (by first | (simp; done) | (simp; omega) | omega)))
  clear hW n0 n1 n2 n3 n4 n5 n6 n7 n8 lg
  have h1 := h.chg C1 (by simp)
  have h2 := hp1.chg C1 (by simp)
  have h3 := hp2.chg C1 (by simp)
  have n0 := h1.cell 9 _ rfl; have n1 := h1.cell 10 _ rfl; have n2 := h1.cell 11 _ rfl; have n3 := h1.cell 12 _ rfl; have n4 := h1.cell 13 _ rfl; have n5 := h1.cell 14 _ rfl; have n6 := h1.cell 15 _ rfl; have n7 := h1.cell 16 _ rfl; have n8 := h1.cell 17 _ rfl
  have p0 := h2.cell 0 _ rfl; have p1 := h2.cell 1 _ rfl
  have q0 := h3.cell 0 _ rfl; have q1 := h3.cell 1 _ rfl; have q2 := h3.cell 2 _ rfl; have q3 := h3.cell 3 _ rfl; have q4 := h3.cell 4 _ rfl
  have lg := h1.lt; have lp := h2.lt; have lq := h3.lt
  rw [rounds_succ]
  go_wp2_with fail
  refine wp_loop_rounds 2 ?_
  rw [rounds_succ]
  go_wp2_with fail
  refine wp_loop_rounds 2 ?_
  rw [rounds_succ]
  go_wp2_with fail
  rw [rounds_succ]
  go_wp2_with fail
  rw [rounds_succ]
  go_wp2_with (go_at_call 82; refine (needs0 _ _ _ _).mono ?_; rintro e w1 ⟨rfl, rfl⟩)
  refine name_rounds fun W3 hW3 => ?_
  have C3 : Chg [] w W3 := by subst hW3; (repeat' (first | with_reducible exact C1 | with_reducible exact Chg.refl _ _ | with_reducible refine Chg.alloc ?_ _ | with_reducible refine Chg.drew ?_ | with_reducible refine Chg.drewN ?_ _ | with_reducible refine Chg.set_ ?_ _ _ (by first | (simp; done) | (simp; omega) | omega)))
  clear hW3 n0 n1 n2 n3 n4 n5 n6 n7 n8 lg p0 p1 q0 q1 q2 q3 q4 h1 h2 h3 lp lq C1
  have h1 := h.chg C3 (by simp)
  have n0 := h1.cell 18 _ rfl; have n1 := h1.cell 19 _ rfl; have n2 := h1.cell 20 _ rfl; have n3 := h1.cell 21 _ rfl; have n4 := h1.cell 22 _ rfl; have n5 := h1.cell 23 _ rfl; have n6 := h1.cell 24 _ rfl; have n7 := h1.cell 25 _ rfl; have n8 := h1.cell 26 _ rfl
  have lg := h1.lt
  rw [rounds_succ]
  go_wp2_with fail
  refine wp_loop_rounds 1 ?_
  rw [rounds_succ]
  go_wp2_with (go_at_call 82; refine (needs0 _ _ _ _).mono ?_; rintro e w1 ⟨rfl, rfl⟩)
  rw [rounds_succ]
  go_wp2_with fail
  go_ret2
  exact ⟨rfl, (Chg.bel (by (repeat' (first | with_reducible exact C3 | with_reducible exact Chg.refl _ _ | with_reducible refine Chg.alloc ?_ _ | with_reducible refine Chg.drew ?_ | with_reducible refine Chg.drewN ?_ _ | with_reducible refine Chg.set_ ?_ _ _ (by first | (simp; done) | (simp; omega) | omega)))))⟩
set_option maxHeartbeats 4000000 in
set_option maxRecDepth 100000 in
theorem check22_ex (w : World) (N gd g c : Nat) (vp : Value) (h : ExD w N gd g c vp) : Calls Tryz.prog 56 #[.slice (some ⟨gd, 0, none⟩) 1 1] w fun e w' => e = .returned (.tuple #[.int .i64 0, .int .i64 0]) ∧ Below w.heap.size w w' := by
  have n0 := h.d.cell 0 _ rfl; have n1 := h.d.cell 1 _ rfl
  have lg := h.d.lt
  go_enter Tryz.func56, Tryz.ntmps56
  go_wp2_with fail
  refine wp_loop_rounds 2 ?_
  rw [rounds_succ]
  go_wp2_with fail
  refine (depth_ex w g c vp h.n).mono ?_
  rintro e w1 ⟨rfl, hb1⟩
  have C1 := Chg.of_below (S := []) hb1
  have h1 := h.chg C1 (by simp)
  clear n0 n1 lg hb1
  have n0 := h1.d.cell 0 _ rfl; have n1 := h1.d.cell 1 _ rfl
  have lg := h1.d.lt
  go_wp2_with fail
  refine (may_ex w1 g c N vp h1.n h1.p).mono ?_
  rintro e w2 ⟨rfl, hb2⟩
  have C2 := C1.below hb2
  have h2 := h.chg C2 (by simp)
  clear n0 n1 lg hb2 C1 h1
  have n0 := h2.d.cell 0 _ rfl; have n1 := h2.d.cell 1 _ rfl
  have lg := h2.d.lt
  go_wp2_with fail
  rw [rounds_succ]
  go_wp2_with fail
  refine wp_loop_rounds 2 ?_
  rw [rounds_succ]
  go_wp2_with fail
  refine (needs_ex w2 _ g c N vp h2.n h2.p).mono ?_
  rintro e w3 ⟨rfl, hb3⟩
  have C3 := C2.below hb3
  clear n0 n1 lg hb3 C2
  go_wp2_with fail
  rw [rounds_succ]
  go_wp2_with fail
  go_ret2
  exact ⟨rfl, C3.bel⟩
end Go.Proofs.YtnepogddjinpoaaGreatDoor
