/-
  funcs: two and Call at "lt"; Call at "len".
-/
import Derived.Test.YtdnmgpidfjkiaaaOrder
namespace Go.Proofs.Ytdnmgpidfjkiaaa
open Go.RowKit
set_option linter.unusedVariables false
set_option linter.unusedSimpArgs false

set_option maxHeartbeats 2000000 in
set_option maxRecDepth 100000 in
theorem two_lt (k1 n1 k2 n2 k3 n3 f : Int) (s1 s2 s3 : ByteArray)
    (cL : ∀ w, Calls Try.prog 60 #[.agg #[.int .i64 k1, .int .i64 n1, .string s1, .slice none 0 0, .slice none 0 0], .agg #[.int .i64 k2, .int .i64 n2, .string s2, .slice none 0 0, .slice none 0 0]] w fun e w' => e = .returned (.tuple #[.agg #[.int .i64 k3, .int .i64 n3, .string s3, .slice none 0 0, .slice none 0 0], .int .i64 f]) ∧ Below w.heap.size w w') (w : World) :
    Calls Try.prog 43 #[.string ⟨#[108, 116]⟩, .agg #[.int .i64 k1, .int .i64 n1, .string s1, .slice none 0 0, .slice none 0 0], .agg #[.int .i64 k2, .int .i64 n2, .string s2, .slice none 0 0, .slice none 0 0]] w fun e w' => e = .returned (.tuple #[.agg #[.int .i64 k3, .int .i64 n3, .string s3, .slice none 0 0, .slice none 0 0], .int .i64 f]) ∧ Below w.heap.size w w' := by
  have cL := hide cL
  have hR0 := Blk.new ((w.alloc (.cells #[.int .i64 k1, .int .i64 n1, .string s1, .slice none 0 0, .slice none 0 0] 25)).alloc (.cells #[.int .i64 k2, .int .i64 n2, .string s2, .slice none 0 0, .slice none 0 0] 25)) 25 #[.int .i64 0, .int .i64 0, .string ⟨#[]⟩, .slice none 0 0, .slice none 0 0]
  have hB0 := (((Below.refl w.heap.size w).alloc (Nat.le_refl _) (.cells #[.int .i64 k1, .int .i64 n1, .string s1, .slice none 0 0, .slice none 0 0] 25)).alloc (by simp) (.cells #[.int .i64 k2, .int .i64 n2, .string s2, .slice none 0 0, .slice none 0 0] 25)).alloc (by simp; omega) (.cells #[.int .i64 0, .int .i64 0, .string ⟨#[]⟩, .slice none 0 0, .slice none 0 0] 25)
  simp only [World.size_alloc] at hR0
  go_enter Try.func43, Try.ntmps43
  go_wp2_with fail
  generalize ((w.alloc (.cells #[.int .i64 k1, .int .i64 n1, .string s1, .slice none 0 0, .slice none 0 0] 25)).alloc (.cells #[.int .i64 k2, .int .i64 n2, .string s2, .slice none 0 0, .slice none 0 0] 25)).alloc (.cells #[.int .i64 0, .int .i64 0, .string ⟨#[]⟩, .slice none 0 0, .slice none 0 0] 25) = W0 at hR0 hB0 ⊢
  refine (cL.out _).mono ?_
  rintro e W1 ⟨rfl, hb1⟩
  have hR1 := hR0.below hb1 hR0.lt
  have hB1 := hB0.trans (hb1.mono hB0.size)
  clear hR0 hB0 hb1
  have r0 := hR1.cell 0; have r1 := hR1.cell 1; have r2 := hR1.cell 2; have r3 := hR1.cell 3; have r4 := hR1.cell 4
  have g0 := hR1.frozen 0; have g1 := hR1.frozen 1; have g2 := hR1.frozen 2; have g3 := hR1.frozen 3; have g4 := hR1.frozen 4
  simp at r0 r1 r2 r3 r4
  go_wp2_with fail
  have hR5 := hR1.five5 (.int .i64 k3) (.int .i64 n3) (.string s3) (.slice none 0 0) (.slice none 0 0)
  have hB5 := below_set5 hB1 (g := w.heap.size + 1 + 1) (by omega) (.int .i64 k3) (.int .i64 n3) (.string s3) (.slice none 0 0) (.slice none 0 0)
  generalize (((((W1.setCell ⟨w.heap.size + 1 + 1, 0, none⟩ (.int .i64 k3)).setCell ⟨w.heap.size + 1 + 1, 1, none⟩ (.int .i64 n3)).setCell ⟨w.heap.size + 1 + 1, 2, none⟩ (.string s3)).setCell ⟨w.heap.size + 1 + 1, 3, none⟩ (.slice none 0 0)).setCell ⟨w.heap.size + 1 + 1, 4, none⟩ (.slice none 0 0)) = W5 at hR5 hB5 ⊢
  have q0 := hR5.cell 0; have q1 := hR5.cell 1; have q2 := hR5.cell 2; have q3 := hR5.cell 3; have q4 := hR5.cell 4
  simp at q0 q1 q2 q3 q4
  (try simp only [Exit.inBlock, Exit.then])
  refine bodyPost_ret (v := .tuple #[.agg #[.int .i64 k3, .int .i64 n3, .string s3, .slice none 0 0, .slice none 0 0], .int .i64 f]) ?_ rfl ⟨rfl, hB5⟩
  simp [results, Try.results43, go_sem, q0, q1, q2, q3, q4]

theorem arity_lt (w : World) : Calls Try.prog 39 #[.string ⟨#[108, 116]⟩] w fun e w' => e = .returned (.tuple #[.int .i64 2, .int .i64 2, .bool true]) ∧ w = w' := by
  go_enter Try.func39, Try.ntmps39
  go_wp2_with fail
  go_ret3
  exact ⟨rfl, rfl⟩
theorem arity_len (w : World) : Calls Try.prog 39 #[.string ⟨#[108, 101, 110]⟩] w fun e w' => e = .returned (.tuple #[.int .i64 1, .int .i64 1, .bool true]) ∧ w = w' := by
  go_enter Try.func39, Try.ntmps39
  go_wp2_with fail
  go_ret3
  exact ⟨rfl, rfl⟩
abbrev Two (w : World) (r : Nat) (k1 n1 : Int) (s1 : ByteArray) (k2 n2 : Int) (s2 : ByteArray) : Prop := Blk w r 25 #[.int .i64 k1, .int .i64 n1, .string s1, .slice none 0 0, .slice none 0 0, .int .i64 k2, .int .i64 n2, .string s2, .slice none 0 0, .slice none 0 0]
set_option maxHeartbeats 4000000 in
set_option maxRecDepth 100000 in
theorem call_lt (k1 n1 k2 n2 k3 n3 f : Int) (s1 s2 s3 : ByteArray)
    (cL : ∀ w, Calls Try.prog 60 #[.agg #[.int .i64 k1, .int .i64 n1, .string s1, .slice none 0 0, .slice none 0 0], .agg #[.int .i64 k2, .int .i64 n2, .string s2, .slice none 0 0, .slice none 0 0]] w fun e w' => e = .returned (.tuple #[.agg #[.int .i64 k3, .int .i64 n3, .string s3, .slice none 0 0, .slice none 0 0], .int .i64 f]) ∧ Below w.heap.size w w') (w : World) (r : Nat) (hr : Two w r k1 n1 s1 k2 n2 s2) :
    Calls Try.prog 24 #[.string ⟨#[108, 116]⟩, .slice (some ⟨r, 0, none⟩) 2 2] w fun e w' => e = .returned (.tuple #[.agg #[.int .i64 k3, .int .i64 n3, .string s3, .slice none 0 0, .slice none 0 0], .int .i64 f]) ∧ Below w.heap.size w w' := by
  have cT := hide (two_lt k1 n1 k2 n2 k3 n3 f s1 s2 s3 cL)
  clear cL
  have hR0 := Blk.new w 25 #[.int .i64 0, .int .i64 0, .string ⟨#[]⟩, .slice none 0 0, .slice none 0 0]
  have hB0 := (Below.refl w.heap.size w).alloc (Nat.le_refl _) (.cells #[.int .i64 0, .int .i64 0, .string ⟨#[]⟩, .slice none 0 0, .slice none 0 0] 25)
  have hr0 := hr.alloc (.cells #[.int .i64 0, .int .i64 0, .string ⟨#[]⟩, .slice none 0 0, .slice none 0 0] 25)
  have hrl := hr.lt
  go_enter Try.func24, Try.ntmps24
  go_wp2_with (first | (go_at_call 39; refine (arity_lt _).mono ?_; rintro e w1 ⟨rfl, rfl⟩))
  generalize w.alloc (.cells #[.int .i64 0, .int .i64 0, .string ⟨#[]⟩, .slice none 0 0, .slice none 0 0] 25) = W0 at hR0 hB0 hr0 ⊢
  have c0 := hr0.cell 0; have c1 := hr0.cell 1; have c2 := hr0.cell 2; have c3 := hr0.cell 3; have c4 := hr0.cell 4
  have c5 := hr0.cell 5; have c6 := hr0.cell 6; have c7 := hr0.cell 7; have c8 := hr0.cell 8; have c9 := hr0.cell 9
  simp at c0 c1 c2 c3 c4 c5 c6 c7 c8 c9
  have hRl := hR0.lt
  clear hr hr0 hrl
  go_region_with (go_at_call 43; refine (cT.out _).mono ?_; rintro e W1 ⟨rfl, hb1⟩; have hR1 := hR0.drew.below hb1 hRl; have r0 := hR1.cell 0; have r1 := hR1.cell 1; have r2 := hR1.cell 2; have r3 := hR1.cell 3; have r4 := hR1.cell 4; have g0 := hR1.frozen 0; have g1 := hR1.frozen 1; have g2 := hR1.frozen 2; have g3 := hR1.frozen 3; have g4 := hR1.frozen 4; simp at r0 r1 r2 r3 r4)
  all_goals
    have hB1 := hB0.drew.trans (hb1.mono hB0.size)
    have hR5 := hR1.five5 (.int .i64 k3) (.int .i64 n3) (.string s3) (.slice none 0 0) (.slice none 0 0)
    have hB5 := below_set5 hB1 (g := w.heap.size) (Nat.le_refl _) (.int .i64 k3) (.int .i64 n3) (.string s3) (.slice none 0 0) (.slice none 0 0)
    generalize (((((W1.setCell ⟨w.heap.size, 0, none⟩ (.int .i64 k3)).setCell ⟨w.heap.size, 1, none⟩ (.int .i64 n3)).setCell ⟨w.heap.size, 2, none⟩ (.string s3)).setCell ⟨w.heap.size, 3, none⟩ (.slice none 0 0)).setCell ⟨w.heap.size, 4, none⟩ (.slice none 0 0)) = W5 at hR5 hB5 ⊢
    have q0 := hR5.cell 0; have q1 := hR5.cell 1; have q2 := hR5.cell 2; have q3 := hR5.cell 3; have q4 := hR5.cell 4
    simp at q0 q1 q2 q3 q4
    go_wp2_with fail
    (try simp only [Exit.inBlock, Exit.then])
    refine bodyPost_ret (v := .tuple #[.agg #[.int .i64 k3, .int .i64 n3, .string s3, .slice none 0 0, .slice none 0 0], .int .i64 f]) ?_ rfl ⟨rfl, hB5⟩
    simp [results, Try.results24, go_sem, q0, q1, q2, q3, q4]
set_option maxHeartbeats 1000000 in
set_option maxRecDepth 100000 in
theorem len_abc (w : World) : Calls Try.prog 54 #[.agg #[.int .i64 4, .int .i64 0, .string ⟨#[97, 98, 99]⟩, .slice none 0 0, .slice none 0 0]] w fun e w' => e = .returned (.tuple #[.int .i64 3, .int .i64 0]) ∧ Below w.heap.size w w' := by
  go_enter Try.func54, Try.ntmps54
  go_wp2_with fail
  go_ret2
  exact ⟨rfl, (Below.refl _ _).alloc (Nat.le_refl _) _⟩
set_option maxHeartbeats 2000000 in
set_option maxRecDepth 100000 in
theorem one_len (w : World) : Calls Try.prog 42 #[.string ⟨#[108, 101, 110]⟩, .agg #[.int .i64 4, .int .i64 0, .string ⟨#[97, 98, 99]⟩, .slice none 0 0, .slice none 0 0]] w fun e w' => e = .returned (.tuple #[.agg #[.int .i64 3, .int .i64 3, .string ⟨#[]⟩, .slice none 0 0, .slice none 0 0], .int .i64 0]) ∧ Below w.heap.size w w' := by
  have hR0 := Blk.new (w.alloc (.cells #[.int .i64 4, .int .i64 0, .string ⟨#[97, 98, 99]⟩, .slice none 0 0, .slice none 0 0] 25)) 25 #[.int .i64 0, .int .i64 0, .string ⟨#[]⟩, .slice none 0 0, .slice none 0 0]
  have hB0 := ((Below.refl w.heap.size w).alloc (Nat.le_refl _) (.cells #[.int .i64 4, .int .i64 0, .string ⟨#[97, 98, 99]⟩, .slice none 0 0, .slice none 0 0] 25)).alloc (by simp) (.cells #[.int .i64 0, .int .i64 0, .string ⟨#[]⟩, .slice none 0 0, .slice none 0 0] 25)
  simp only [World.size_alloc] at hR0
  go_enter Try.func42, Try.ntmps42
  go_wp2_with fail
  generalize (w.alloc (.cells #[.int .i64 4, .int .i64 0, .string ⟨#[97, 98, 99]⟩, .slice none 0 0, .slice none 0 0] 25)).alloc (.cells #[.int .i64 0, .int .i64 0, .string ⟨#[]⟩, .slice none 0 0, .slice none 0 0] 25) = W0 at hR0 hB0 ⊢
  refine (len_abc _).mono ?_
  rintro e W1 ⟨rfl, hb1⟩
  have hR1 := hR0.below hb1 hR0.lt
  have hB1 := hB0.trans (hb1.mono hB0.size)
  clear hR0 hB0 hb1
  go_wp2_with fail
  refine (int_any 3 _).mono ?_
  rintro e W2 ⟨rfl, hb2⟩
  have hR2 := hR1.below hb2 hR1.lt
  have hB2 := hB1.trans (hb2.mono hB1.size)
  clear hR1 hB1 hb2
  have r0 := hR2.cell 0; have r1 := hR2.cell 1; have r2 := hR2.cell 2; have r3 := hR2.cell 3; have r4 := hR2.cell 4
  have g0 := hR2.frozen 0; have g1 := hR2.frozen 1; have g2 := hR2.frozen 2; have g3 := hR2.frozen 3; have g4 := hR2.frozen 4
  simp at r0 r1 r2 r3 r4
  go_wp2_with fail
  have hR5 := hR2.five5 (.int .i64 3) (.int .i64 3) (.string ⟨#[]⟩) (.slice none 0 0) (.slice none 0 0)
  have hB5 := below_set5 hB2 (g := w.heap.size + 1) (by omega) (.int .i64 3) (.int .i64 3) (.string ⟨#[]⟩) (.slice none 0 0) (.slice none 0 0)
  generalize (((((W2.setCell ⟨w.heap.size + 1, 0, none⟩ (.int .i64 3)).setCell ⟨w.heap.size + 1, 1, none⟩ (.int .i64 3)).setCell ⟨w.heap.size + 1, 2, none⟩ (.string ⟨#[]⟩)).setCell ⟨w.heap.size + 1, 3, none⟩ (.slice none 0 0)).setCell ⟨w.heap.size + 1, 4, none⟩ (.slice none 0 0)) = W5 at hR5 hB5 ⊢
  have q0 := hR5.cell 0; have q1 := hR5.cell 1; have q2 := hR5.cell 2; have q3 := hR5.cell 3; have q4 := hR5.cell 4
  simp at q0 q1 q2 q3 q4
  (try simp only [Exit.inBlock, Exit.then])
  refine bodyPost_ret (v := .tuple #[.agg #[.int .i64 3, .int .i64 3, .string ⟨#[]⟩, .slice none 0 0, .slice none 0 0], .int .i64 0]) ?_ rfl ⟨rfl, hB5⟩
  simp [results, Try.results42, go_sem, q0, q1, q2, q3, q4]
set_option maxHeartbeats 4000000 in
set_option maxRecDepth 100000 in
theorem call_len (w : World) (r : Nat) (hr : Blk w r 25 #[.int .i64 4, .int .i64 0, .string ⟨#[97, 98, 99]⟩, .slice none 0 0, .slice none 0 0]) :
    Calls Try.prog 24 #[.string ⟨#[108, 101, 110]⟩, .slice (some ⟨r, 0, none⟩) 1 1] w fun e w' => e = .returned (.tuple #[.agg #[.int .i64 3, .int .i64 3, .string ⟨#[]⟩, .slice none 0 0, .slice none 0 0], .int .i64 0]) ∧ Below w.heap.size w w' := by
  have hR0 := Blk.new w 25 #[.int .i64 0, .int .i64 0, .string ⟨#[]⟩, .slice none 0 0, .slice none 0 0]
  have hB0 := (Below.refl w.heap.size w).alloc (Nat.le_refl _) (.cells #[.int .i64 0, .int .i64 0, .string ⟨#[]⟩, .slice none 0 0, .slice none 0 0] 25)
  have hr0 := hr.alloc (.cells #[.int .i64 0, .int .i64 0, .string ⟨#[]⟩, .slice none 0 0, .slice none 0 0] 25)
  have hrl := hr.lt
  have c0 := hr0.cell 0; have c1 := hr0.cell 1; have c2 := hr0.cell 2; have c3 := hr0.cell 3; have c4 := hr0.cell 4
  simp at c0 c1 c2 c3 c4
  have d0 := hr.cell 0; have d1 := hr.cell 1; have d2 := hr.cell 2; have d3 := hr.cell 3; have d4 := hr.cell 4
  simp at d0 d1 d2 d3 d4
  go_enter Try.func24, Try.ntmps24
  go_wp2_with (first | (go_at_call 39; refine (arity_len _).mono ?_; rintro e w1 ⟨rfl, rfl⟩))
  generalize w.alloc (.cells #[.int .i64 0, .int .i64 0, .string ⟨#[]⟩, .slice none 0 0, .slice none 0 0] 25) = W0 at hR0 hB0 hr0 c0 c1 c2 c3 c4 ⊢
  refine (one_len _).mono ?_
  rintro e W2 ⟨rfl, hb2⟩
  have hR2 := hR0.below hb2 hR0.lt
  have hB2 := hB0.trans (hb2.mono hB0.size)
  clear hR0 hB0 hb2 c0 c1 c2 c3 c4 d0 d1 d2 d3 d4
  have r0 := hR2.cell 0; have r1 := hR2.cell 1; have r2 := hR2.cell 2; have r3 := hR2.cell 3; have r4 := hR2.cell 4
  have g0 := hR2.frozen 0; have g1 := hR2.frozen 1; have g2 := hR2.frozen 2; have g3 := hR2.frozen 3; have g4 := hR2.frozen 4
  simp at r0 r1 r2 r3 r4
  go_wp2_with fail
  have hR5 := hR2.five5 (.int .i64 3) (.int .i64 3) (.string ⟨#[]⟩) (.slice none 0 0) (.slice none 0 0)
  have hB5 := below_set5 hB2 (g := w.heap.size) (Nat.le_refl _) (.int .i64 3) (.int .i64 3) (.string ⟨#[]⟩) (.slice none 0 0) (.slice none 0 0)
  generalize (((((W2.setCell ⟨w.heap.size, 0, none⟩ (.int .i64 3)).setCell ⟨w.heap.size, 1, none⟩ (.int .i64 3)).setCell ⟨w.heap.size, 2, none⟩ (.string ⟨#[]⟩)).setCell ⟨w.heap.size, 3, none⟩ (.slice none 0 0)).setCell ⟨w.heap.size, 4, none⟩ (.slice none 0 0)) = W5 at hR5 hB5 ⊢
  have q0 := hR5.cell 0; have q1 := hR5.cell 1; have q2 := hR5.cell 2; have q3 := hR5.cell 3; have q4 := hR5.cell 4
  simp at q0 q1 q2 q3 q4
  (try simp only [Exit.inBlock, Exit.then])
  refine bodyPost_ret (v := .tuple #[.agg #[.int .i64 3, .int .i64 3, .string ⟨#[]⟩, .slice none 0 0, .slice none 0 0], .int .i64 0]) ?_ rfl ⟨rfl, hB5⟩
  simp [results, Try.results24, go_sem, q0, q1, q2, q3, q4]
set_option maxHeartbeats 2000000 in
set_option maxRecDepth 100000 in
theorem alive26 (w : World) : Calls Try.prog 21 #[] w fun e w' => e = .returned (.bool true) ∧ Below w.heap.size w w' := by
  go_enter Try.func21, Try.ntmps21
  go_wp2_with fail
  refine (refText_any _ _).mono ?_
  rintro e w1 ⟨rfl, hb1⟩
  have hR := Blk.new w1 25 #[.int .i64 4, .int .i64 0, .string ⟨#[97, 98, 99]⟩, .slice none 0 0, .slice none 0 0]
  have hB := hb1.alloc hb1.size (.cells #[.int .i64 4, .int .i64 0, .string ⟨#[97, 98, 99]⟩, .slice none 0 0, .slice none 0 0] 25)
  go_wp2_with fail
  generalize w1.alloc (.cells #[.int .i64 4, .int .i64 0, .string ⟨#[97, 98, 99]⟩, .slice none 0 0, .slice none 0 0] 25) = W1 at hR hB ⊢
  refine (call_len _ _ hR).mono ?_
  rintro e w2 ⟨rfl, hb2⟩
  have hB2 := hB.trans (hb2.mono hB.size)
  have hB3 := hB2.alloc hB2.size (.cells #[.int .i64 3, .int .i64 3, .string ⟨#[]⟩, .slice none 0 0, .slice none 0 0] 25)
  go_wp2_with (go_at_call 25; refine (num26 _ _).mono ?_; rintro e wn ⟨rfl, rfl⟩)
  go_ret
  exact ⟨rfl, hB3⟩
end Go.Proofs.Ytdnmgpidfjkiaaa
