/-
  funcs: what is told may be: letters, one; values.Truth, Len.
-/
import Derived.Test.YtdnmgpidfjkiaaaVFun4
namespace Go.Proofs.Ytdnmgpidfjkiaaa
open Go.RowKit
set_option linter.unusedVariables false
set_option linter.unusedSimpArgs false

set_option maxHeartbeats 20000000 in
set_option maxRecDepth 100000 in
theorem valTruth_any (x : VF) (w : World) : Calls Try.prog 33 #[x.val] w fun e w' => ∃ b, e = .returned (.bool b) ∧ Below w.heap.size w w' := by
  obtain ⟨kx, ix, sx, ax, nx, cx, bx, mx, ex⟩ := x
  by_cases h0 : kx = 0
  · subst h0
    go_enter Try.func33, Try.ntmps33
    go_wp2_with fail
    go_ret
    exact ⟨_, rfl, (Below.refl _ _).alloc (Nat.le_refl _) _⟩
  have q0 : (kx == 0) = false := by rw [beq_eq_false_iff_ne]; exact h0
  by_cases h1 : kx = 1
  · subst h1
    go_enter Try.func33, Try.ntmps33
    go_wp2_with fail
    go_ret
    exact ⟨_, rfl, (Below.refl _ _).alloc (Nat.le_refl _) _⟩
  have q1 : (kx == 1) = false := by rw [beq_eq_false_iff_ne]; exact h1
  by_cases h2 : kx = 2
  · subst h2
    go_enter Try.func33, Try.ntmps33
    go_wp2_with fail
    go_ret
    exact ⟨_, rfl, (Below.refl _ _).alloc (Nat.le_refl _) _⟩
  have q2 : (kx == 2) = false := by rw [beq_eq_false_iff_ne]; exact h2
  by_cases h3 : kx = 3
  · subst h3
    go_enter Try.func33, Try.ntmps33
    go_wp2_with fail
    go_ret
    exact ⟨_, rfl, (Below.refl _ _).alloc (Nat.le_refl _) _⟩
  have q3 : (kx == 3) = false := by rw [beq_eq_false_iff_ne]; exact h3
  by_cases h5 : kx = 5
  · subst h5
    go_enter Try.func33, Try.ntmps33
    go_wp2_with fail
    go_ret
    exact ⟨_, rfl, (Below.refl _ _).alloc (Nat.le_refl _) _⟩
  have q5 : (kx == 5) = false := by rw [beq_eq_false_iff_ne]; exact h5
  by_cases h6 : kx = 6
  · subst h6
    go_enter Try.func33, Try.ntmps33
    go_wp2_with fail
    go_ret
    exact ⟨_, rfl, (Below.refl _ _).alloc (Nat.le_refl _) _⟩
  have q6 : (kx == 6) = false := by rw [beq_eq_false_iff_ne]; exact h6
  go_enter Try.func33, Try.ntmps33
  go_wp2_with fail
  go_ret
  exact ⟨_, rfl, (Below.refl _ _).alloc (Nat.le_refl _) _⟩
set_option maxHeartbeats 20000000 in
set_option maxRecDepth 100000 in
theorem valLen_any (x : VF) (w : World) : Calls Try.prog 54 #[x.val] w fun e w' => ∃ q er : Int, e = .returned (.tuple #[.int .i64 q, .int .i64 er]) ∧ Below w.heap.size w w' := by
  obtain ⟨kx, ix, sx, ax, nx, cx, bx, mx, ex⟩ := x
  by_cases h5 : kx = 5
  · subst h5
    go_enter Try.func54, Try.ntmps54
    go_wp2_with fail
    go_ret2
    first | exact ⟨_, _, rfl, (Below.refl _ _).alloc (Nat.le_refl _) _⟩ | exact ⟨⟨_, _, rfl⟩, (Below.refl _ _).alloc (Nat.le_refl _) _⟩
  have q5 : (kx == 5) = false := by rw [beq_eq_false_iff_ne]; exact h5
  by_cases h6 : kx = 6
  · subst h6
    go_enter Try.func54, Try.ntmps54
    go_wp2_with fail
    go_ret2
    first | exact ⟨_, _, rfl, (Below.refl _ _).alloc (Nat.le_refl _) _⟩ | exact ⟨⟨_, _, rfl⟩, (Below.refl _ _).alloc (Nat.le_refl _) _⟩
  have q6 : (kx == 6) = false := by rw [beq_eq_false_iff_ne]; exact h6
  by_cases h4 : kx = 4
  · subst h4
    go_enter Try.func54, Try.ntmps54
    go_wp2_with fail
    go_ret2
    first | exact ⟨_, _, rfl, (Below.refl _ _).alloc (Nat.le_refl _) _⟩ | exact ⟨⟨_, _, rfl⟩, (Below.refl _ _).alloc (Nat.le_refl _) _⟩
  have q4 : (kx == 4) = false := by rw [beq_eq_false_iff_ne]; exact h4
  by_cases h7 : 7 ≤ kx
  · have q7 : decide (7 ≤ kx) = true := decide_eq_true h7
    go_enter Try.func54, Try.ntmps54
    go_wp2_with fail
    go_ret2
    first | exact ⟨_, _, rfl, (Below.refl _ _).alloc (Nat.le_refl _) _⟩ | exact ⟨⟨_, _, rfl⟩, (Below.refl _ _).alloc (Nat.le_refl _) _⟩
  · have q7 : decide (7 ≤ kx) = false := decide_eq_false h7
    go_enter Try.func54, Try.ntmps54
    go_wp2_with fail
    go_ret2
    first | exact ⟨_, _, rfl, (Below.refl _ _).alloc (Nat.le_refl _) _⟩ | exact ⟨⟨_, _, rfl⟩, (Below.refl _ _).alloc (Nat.le_refl _) _⟩
set_option maxHeartbeats 20000000 in
set_option maxRecDepth 100000 in
theorem lettersG (n : Nat) (pl : Bool) (g : Nat) (eg : ∀ args w, (callFunc g args).run Try.prog w = .ok (.enter g args) w) (F : UInt8 → UInt8)
    (hf : ∀ (s : ByteArray) (W : World), s.size ≤ 9223372036854775807 → Calls Try.prog g #[.string s] W fun e w' => e = .returned (.string ⟨(s.data.toList.map F).toArray⟩) ∧ Below W.heap.size W w') (x : VF) (w : World) (hx : ArgV n pl w x.val) : Calls Try.prog 56 #[x.val, .func (.func g) #[] #[]] w (FRes pl w) := by
  obtain ⟨d, hV, hs, hc, _, _, hp⟩ := hx
  obtain ⟨kx, ix, sx, ax, nx, cx, bx, mx, ex⟩ := x
  have hlen : sx.data.toList.length ≤ 4096 := by
    obtain ⟨k2, i2, s2, l2, t2⟩ := d
    obtain ⟨_, _, _, _, he, _⟩ := hV.parts
    have hi2 : sx = ⟨s2.toArray⟩ := by simp [VF.val, valV] at he; exact he.2.2.1
    have := head_len (check_parts hc).1
    rw [hi2]; simpa using this
  clear hV hs hc hp
  have hsx : sx.size ≤ 9223372036854775807 := by rw [← size_list]; omega
  have cF := hide (fun W => hf sx W hsx)
  have HG := hide (fun (N : Nat) (W : World) => goodLeaf N pl W 4 0 (sx.data.toList.map F) (by unfold headErr; rw [List.length_map]; rw [if_neg (by omega), if_neg (by omega), if_neg (by omega), if_neg (by omega), if_neg (by omega)]) (by rw [List.length_map]; omega) (by omega))
  obtain ⟨T, hT⟩ : ∃ T : ByteArray, (⟨(sx.data.toList.map F).toArray⟩ : ByteArray) = T := ⟨_, rfl⟩
  rw [hT] at cF HG
  clear hf hT hlen hsx
  have hR0 := Blk.new (w.alloc (.cells #[.int .i64 kx, .int .i64 ix, .string sx, .slice ax nx cx, .slice bx mx ex] 25)) 25 #[.int .i64 0, .int .i64 0, .string ⟨#[]⟩, .slice none 0 0, .slice none 0 0]
  have hB0 := ((Below.refl w.heap.size w).alloc (Nat.le_refl _) (.cells #[.int .i64 kx, .int .i64 ix, .string sx, .slice ax nx cx, .slice bx mx ex] 25)).alloc (by simp) (.cells #[.int .i64 0, .int .i64 0, .string ⟨#[]⟩, .slice none 0 0, .slice none 0 0] 25)
  simp only [World.size_alloc] at hR0
  by_cases h4 : kx = 4
  · subst h4
    go_enter Try.func56, Try.ntmps56
    go_wp2_with fail
    generalize (w.alloc (.cells #[.int .i64 4, .int .i64 ix, .string sx, .slice ax nx cx, .slice bx mx ex] 25)).alloc (.cells #[.int .i64 0, .int .i64 0, .string ⟨#[]⟩, .slice none 0 0, .slice none 0 0] 25) = W0 at hR0 hB0 ⊢
    refine (cF.out _).mono ?_
    rintro e w0 ⟨rfl, hb0⟩
    have hR0 := hR0.below hb0 hR0.lt
    have hB0 := hB0.trans (hb0.mono hB0.size)
    clear hb0
    go_wp2_with fail
    refine (textV_any T _).mono ?_
    rintro e w1 ⟨rfl, hb1⟩
    have hR1 := hR0.below hb1 hR0.lt
    have hB1 := hB0.trans (hb1.mono hB0.size)
    clear hR0 hB0 hb1
    have r0 := hR1.cell 0; have r1 := hR1.cell 1; have r2 := hR1.cell 2; have r3 := hR1.cell 3; have r4 := hR1.cell 4
    have g0 := hR1.frozen 0; have g1 := hR1.frozen 1; have g2 := hR1.frozen 2; have g3 := hR1.frozen 3; have g4 := hR1.frozen 4
    simp at r0 r1 r2 r3 r4
    have HGD := hide (GoodV.set5 (g := w.heap.size + 1) (HG.out (w.heap.size + 1 + 1) w1) (by omega) (.int .i64 4) (.int .i64 0) (.string T) (.slice none 0 0) (.slice none 0 0))
    go_wp2_with fail
    have hR5 := hR1.five5 (.int .i64 4) (.int .i64 0) (.string T) (.slice none 0 0) (.slice none 0 0)
    have hB5 := below_set5 hB1 (g := w.heap.size + 1) (by omega) (.int .i64 4) (.int .i64 0) (.string T) (.slice none 0 0) (.slice none 0 0)
    generalize (((((w1.setCell ⟨w.heap.size + 1, 0, none⟩ (.int .i64 4)).setCell ⟨w.heap.size + 1, 1, none⟩ (.int .i64 0)).setCell ⟨w.heap.size + 1, 2, none⟩ (.string T)).setCell ⟨w.heap.size + 1, 3, none⟩ (.slice none 0 0)).setCell ⟨w.heap.size + 1, 4, none⟩ (.slice none 0 0)) = W5 at hR5 hB5 HGD ⊢
    have q0 := hR5.cell 0; have q1 := hR5.cell 1; have q2 := hR5.cell 2; have q3 := hR5.cell 3; have q4 := hR5.cell 4
    simp at q0 q1 q2 q3 q4
    (try simp only [Exit.inBlock, Exit.then])
    refine bodyPost_ret (v := .tuple #[.agg #[.int .i64 4, .int .i64 0, .string T, .slice none 0 0, .slice none 0 0], .int .i64 0]) ?_ rfl ⟨⟨4, 0, T, none, 0, 0, none, 0, 0⟩, 0, rfl, HGD.out.less (by omega), hB5⟩
    simp [results, Try.results56, go_sem, q0, q1, q2, q3, q4]
  · have q4 : (kx == 4) = false := by rw [beq_eq_false_iff_ne]; exact h4
    go_enter Try.func56, Try.ntmps56
    go_wp2_with fail
    have q0 := hR0.cell 0; have q1 := hR0.cell 1; have q2 := hR0.cell 2; have q3 := hR0.cell 3; have q4 := hR0.cell 4
    simp at q0 q1 q2 q3 q4
    (try simp only [Exit.inBlock, Exit.then])
    refine bodyPost_ret (v := .tuple #[.agg #[.int .i64 0, .int .i64 0, .string ⟨#[]⟩, .slice none 0 0, .slice none 0 0], .int .i64 13]) ?_ rfl ⟨⟨0, 0, ⟨#[]⟩, none, 0, 0, none, 0, 0⟩, 13, rfl, goodZero _ _ _, hB0⟩
    simp [results, Try.results56, go_sem, q0, q1, q2, q3, q4]
set_option maxHeartbeats 20000000 in
set_option maxRecDepth 100000 in
theorem oneLen (n : Nat) (pl : Bool) (x : VF) (w : World) (hx : ArgV n pl w x.val) : Calls Try.prog 42 #[.string ⟨#[108, 101, 110]⟩, x.val] w (FRes pl w) := by
  have cL := hide (fun w => valLen_any x w)
  clear hx
  obtain ⟨kx, ix, sx, ax, nx, cx, bx, mx, ex⟩ := x
  have hR0 := Blk.new (w.alloc (.cells #[.int .i64 kx, .int .i64 ix, .string sx, .slice ax nx cx, .slice bx mx ex] 25)) 25 #[.int .i64 0, .int .i64 0, .string ⟨#[]⟩, .slice none 0 0, .slice none 0 0]
  have hB0 := ((Below.refl w.heap.size w).alloc (Nat.le_refl _) (.cells #[.int .i64 kx, .int .i64 ix, .string sx, .slice ax nx cx, .slice bx mx ex] 25)).alloc (by simp) (.cells #[.int .i64 0, .int .i64 0, .string ⟨#[]⟩, .slice none 0 0, .slice none 0 0] 25)
  simp only [World.size_alloc] at hR0
  go_enter Try.func42, Try.ntmps42
  go_wp2_with fail
  generalize (w.alloc (.cells #[.int .i64 kx, .int .i64 ix, .string sx, .slice ax nx cx, .slice bx mx ex] 25)).alloc (.cells #[.int .i64 0, .int .i64 0, .string ⟨#[]⟩, .slice none 0 0, .slice none 0 0] 25) = W0 at hR0 hB0 ⊢
  refine (cL.out _).mono ?_
  rintro e w0 ⟨q, er, rfl, hb0⟩
  have hR0 := hR0.below hb0 hR0.lt
  have hB0 := hB0.trans (hb0.mono hB0.size)
  clear hb0
  by_cases her : er = 0
  · subst her
    go_wp2_with fail
    refine (int_any q _).mono ?_
    rintro e w1 ⟨rfl, hb1⟩
    have hR1 := hR0.below hb1 hR0.lt
    have hB1 := hB0.trans (hb1.mono hB0.size)
    clear hR0 hB0 hb1
    have r0 := hR1.cell 0; have r1 := hR1.cell 1; have r2 := hR1.cell 2; have r3 := hR1.cell 3; have r4 := hR1.cell 4
    have g0 := hR1.frozen 0; have g1 := hR1.frozen 1; have g2 := hR1.frozen 2; have g3 := hR1.frozen 3; have g4 := hR1.frozen 4
    simp at r0 r1 r2 r3 r4
    have HGD := hide (GoodV.set5 (g := w.heap.size + 1) (goodLeaf (w.heap.size + 1 + 1) pl w1 3 q [] (by unfold headErr; simp) (by decide) (by decide)) (by omega) (.int .i64 3) (.int .i64 q) (.string ⟨#[]⟩) (.slice none 0 0) (.slice none 0 0))
    go_wp2_with fail
    have hR5 := hR1.five5 (.int .i64 3) (.int .i64 q) (.string ⟨#[]⟩) (.slice none 0 0) (.slice none 0 0)
    have hB5 := below_set5 hB1 (g := w.heap.size + 1) (by omega) (.int .i64 3) (.int .i64 q) (.string ⟨#[]⟩) (.slice none 0 0) (.slice none 0 0)
    generalize (((((w1.setCell ⟨w.heap.size + 1, 0, none⟩ (.int .i64 3)).setCell ⟨w.heap.size + 1, 1, none⟩ (.int .i64 q)).setCell ⟨w.heap.size + 1, 2, none⟩ (.string ⟨#[]⟩)).setCell ⟨w.heap.size + 1, 3, none⟩ (.slice none 0 0)).setCell ⟨w.heap.size + 1, 4, none⟩ (.slice none 0 0)) = W5 at hR5 hB5 HGD ⊢
    have q0 := hR5.cell 0; have q1 := hR5.cell 1; have q2 := hR5.cell 2; have q3 := hR5.cell 3; have q4 := hR5.cell 4
    simp at q0 q1 q2 q3 q4
    (try simp only [Exit.inBlock, Exit.then])
    refine bodyPost_ret (v := .tuple #[.agg #[.int .i64 3, .int .i64 q, .string ⟨#[]⟩, .slice none 0 0, .slice none 0 0], .int .i64 0]) ?_ rfl ⟨⟨3, q, ⟨#[]⟩, none, 0, 0, none, 0, 0⟩, 0, rfl, HGD.out.less (by omega), hB5⟩
    simp [results, Try.results42, go_sem, q0, q1, q2, q3, q4]
  · have qe : (er != 0) = true := by simpa using her
    have r0 := hR0.cell 0; have r1 := hR0.cell 1; have r2 := hR0.cell 2; have r3 := hR0.cell 3; have r4 := hR0.cell 4
    have g0 := hR0.frozen 0; have g1 := hR0.frozen 1; have g2 := hR0.frozen 2; have g3 := hR0.frozen 3; have g4 := hR0.frozen 4
    simp at r0 r1 r2 r3 r4
    have HGD := hide (GoodV.set5 (g := w.heap.size + 1) (goodZero (w.heap.size + 1 + 1) pl w0) (by omega) (.int .i64 0) (.int .i64 0) (.string ⟨#[]⟩) (.slice none 0 0) (.slice none 0 0))
    go_wp2_with fail
    have hR5 := hR0.five5 (.int .i64 0) (.int .i64 0) (.string ⟨#[]⟩) (.slice none 0 0) (.slice none 0 0)
    have hB5 := below_set5 hB0 (g := w.heap.size + 1) (by omega) (.int .i64 0) (.int .i64 0) (.string ⟨#[]⟩) (.slice none 0 0) (.slice none 0 0)
    generalize (((((w0.setCell ⟨w.heap.size + 1, 0, none⟩ (.int .i64 0)).setCell ⟨w.heap.size + 1, 1, none⟩ (.int .i64 0)).setCell ⟨w.heap.size + 1, 2, none⟩ (.string ⟨#[]⟩)).setCell ⟨w.heap.size + 1, 3, none⟩ (.slice none 0 0)).setCell ⟨w.heap.size + 1, 4, none⟩ (.slice none 0 0)) = W5 at hR5 hB5 HGD ⊢
    have q0 := hR5.cell 0; have q1 := hR5.cell 1; have q2 := hR5.cell 2; have q3 := hR5.cell 3; have q4 := hR5.cell 4
    simp at q0 q1 q2 q3 q4
    (try simp only [Exit.inBlock, Exit.then])
    refine bodyPost_ret (v := .tuple #[.agg #[.int .i64 0, .int .i64 0, .string ⟨#[]⟩, .slice none 0 0, .slice none 0 0], .int .i64 er]) ?_ rfl ⟨⟨0, 0, ⟨#[]⟩, none, 0, 0, none, 0, 0⟩, er, rfl, HGD.out.less (by omega), hB5⟩
    simp [results, Try.results42, go_sem, q0, q1, q2, q3, q4]
set_option maxHeartbeats 20000000 in
set_option maxRecDepth 100000 in
theorem oneNot (n : Nat) (pl : Bool) (x : VF) (w : World) (hx : ArgV n pl w x.val) : Calls Try.prog 42 #[.string ⟨#[110, 111, 116]⟩, x.val] w (FRes pl w) := by
  have cL := hide (fun w => valTruth_any x w)
  clear hx
  obtain ⟨kx, ix, sx, ax, nx, cx, bx, mx, ex⟩ := x
  have hR0 := Blk.new (w.alloc (.cells #[.int .i64 kx, .int .i64 ix, .string sx, .slice ax nx cx, .slice bx mx ex] 25)) 25 #[.int .i64 0, .int .i64 0, .string ⟨#[]⟩, .slice none 0 0, .slice none 0 0]
  have hB0 := ((Below.refl w.heap.size w).alloc (Nat.le_refl _) (.cells #[.int .i64 kx, .int .i64 ix, .string sx, .slice ax nx cx, .slice bx mx ex] 25)).alloc (by simp) (.cells #[.int .i64 0, .int .i64 0, .string ⟨#[]⟩, .slice none 0 0, .slice none 0 0] 25)
  simp only [World.size_alloc] at hR0
  go_enter Try.func42, Try.ntmps42
  go_wp2_with fail
  generalize (w.alloc (.cells #[.int .i64 kx, .int .i64 ix, .string sx, .slice ax nx cx, .slice bx mx ex] 25)).alloc (.cells #[.int .i64 0, .int .i64 0, .string ⟨#[]⟩, .slice none 0 0, .slice none 0 0] 25) = W0 at hR0 hB0 ⊢
  refine (cL.out _).mono ?_
  rintro e w0 ⟨b, rfl, hb0⟩
  have hR0 := hR0.below hb0 hR0.lt
  have hB0 := hB0.trans (hb0.mono hB0.size)
  clear hb0
  obtain ⟨d, hd⟩ : ∃ d, (!b) = d := ⟨_, rfl⟩
  go_wp2_with fail
  (try rw [hd])
  refine (truth_any d _).mono ?_
  rintro e w1 ⟨rfl, hb1⟩
  have hR1 := hR0.below hb1 hR0.lt
  have hB1 := hB0.trans (hb1.mono hB0.size)
  clear hR0 hB0 hb1
  have r0 := hR1.cell 0; have r1 := hR1.cell 1; have r2 := hR1.cell 2; have r3 := hR1.cell 3; have r4 := hR1.cell 4
  have g0 := hR1.frozen 0; have g1 := hR1.frozen 1; have g2 := hR1.frozen 2; have g3 := hR1.frozen 3; have g4 := hR1.frozen 4
  simp at r0 r1 r2 r3 r4
  have HGD := hide (GoodV.set5 (g := w.heap.size + 1) (goodTruth (w.heap.size + 1 + 1) pl d w1) (by omega) (.int .i64 (truthK d)) (.int .i64 0) (.string ⟨#[]⟩) (.slice none 0 0) (.slice none 0 0))
  go_wp2_with fail
  have hR5 := hR1.five5 (.int .i64 (truthK d)) (.int .i64 0) (.string ⟨#[]⟩) (.slice none 0 0) (.slice none 0 0)
  have hB5 := below_set5 hB1 (g := w.heap.size + 1) (by omega) (.int .i64 (truthK d)) (.int .i64 0) (.string ⟨#[]⟩) (.slice none 0 0) (.slice none 0 0)
  generalize (((((w1.setCell ⟨w.heap.size + 1, 0, none⟩ (.int .i64 (truthK d))).setCell ⟨w.heap.size + 1, 1, none⟩ (.int .i64 0)).setCell ⟨w.heap.size + 1, 2, none⟩ (.string ⟨#[]⟩)).setCell ⟨w.heap.size + 1, 3, none⟩ (.slice none 0 0)).setCell ⟨w.heap.size + 1, 4, none⟩ (.slice none 0 0)) = W5 at hR5 hB5 HGD ⊢
  have q0 := hR5.cell 0; have q1 := hR5.cell 1; have q2 := hR5.cell 2; have q3 := hR5.cell 3; have q4 := hR5.cell 4
  simp at q0 q1 q2 q3 q4
  (try simp only [Exit.inBlock, Exit.then])
  refine bodyPost_ret (v := .tuple #[.agg #[.int .i64 (truthK d), .int .i64 0, .string ⟨#[]⟩, .slice none 0 0, .slice none 0 0], .int .i64 0]) ?_ rfl ⟨⟨truthK d, 0, ⟨#[]⟩, none, 0, 0, none, 0, 0⟩, 0, rfl, HGD.out.less (by omega), hB5⟩
  simp [results, Try.results42, go_sem, q0, q1, q2, q3, q4]
set_option maxHeartbeats 20000000 in
set_option maxRecDepth 100000 in
theorem octLower_any (s : ByteArray) (w : World) (hs : s.size ≤ 9223372036854775807) :
    Calls Try.prog 58 #[.string s] w fun e w' => e = .returned (.string ⟨(s.data.toList.map smallB).toArray⟩) ∧ Below w.heap.size w w' := by
  have hc := hide (lower_any s w hs)
  go_enter Try.func58, Try.ntmps58
  go_wp2_with (go_at_call 70; refine (Hid.out hc).mono ?_; rintro e w1 ⟨rfl, hb⟩)
  go_ret
  exact ⟨rfl, hb⟩
set_option maxHeartbeats 20000000 in
set_option maxRecDepth 100000 in
theorem oneUpper (n : Nat) (pl : Bool) (x : VF) (w : World) (hx : ArgV n pl w x.val) : Calls Try.prog 42 #[.string ⟨#[117, 112, 112, 101, 114]⟩, x.val] w (FRes pl w) := by
  have cL : Hid (∀ W, Below w.heap.size w W → Calls Try.prog 56 #[x.val, .func (.func 57) #[] #[]] W (FRes pl W)) :=
    fun W h => lettersG n pl 57 (enters_of Try.func57 (by kernel_rfl) rfl) greatB (fun s W hs => upper_any s W hs) x W (hx.step h)
  clear hx
  obtain ⟨kx, ix, sx, ax, nx, cx, bx, mx, ex⟩ := x
  have hR0 := Blk.new (w.alloc (.cells #[.int .i64 kx, .int .i64 ix, .string sx, .slice ax nx cx, .slice bx mx ex] 25)) 25 #[.int .i64 0, .int .i64 0, .string ⟨#[]⟩, .slice none 0 0, .slice none 0 0]
  have hB0 := ((Below.refl w.heap.size w).alloc (Nat.le_refl _) (.cells #[.int .i64 kx, .int .i64 ix, .string sx, .slice ax nx cx, .slice bx mx ex] 25)).alloc (by simp) (.cells #[.int .i64 0, .int .i64 0, .string ⟨#[]⟩, .slice none 0 0, .slice none 0 0] 25)
  simp only [World.size_alloc] at hR0
  go_enter Try.func42, Try.ntmps42
  go_wp2_with fail
  have hsz : ((w.alloc (.cells #[.int .i64 kx, .int .i64 ix, .string sx, .slice ax nx cx, .slice bx mx ex] 25)).alloc (.cells #[.int .i64 0, .int .i64 0, .string ⟨#[]⟩, .slice none 0 0, .slice none 0 0] 25)).heap.size = w.heap.size + 1 + 1 := by simp
  generalize (w.alloc (.cells #[.int .i64 kx, .int .i64 ix, .string sx, .slice ax nx cx, .slice bx mx ex] 25)).alloc (.cells #[.int .i64 0, .int .i64 0, .string ⟨#[]⟩, .slice none 0 0, .slice none 0 0] 25) = W0 at hR0 hB0 hsz ⊢
  refine (cL.out _ hB0).mono ?_
  rintro e w1 ⟨⟨kv, iv, sv, av, nv, cv, bv, mv, ev⟩, er, rfl, hgood, hb1⟩
  rw [hsz] at hgood
  have HSZ := hide hsz
  clear hsz
  have hR1 := hR0.below hb1 hR0.lt
  have hB1 := hB0.trans (hb1.mono hB0.size)
  clear hR0 hB0 hb1 cL
  have r0 := hR1.cell 0; have r1 := hR1.cell 1; have r2 := hR1.cell 2; have r3 := hR1.cell 3; have r4 := hR1.cell 4
  have g0 := hR1.frozen 0; have g1 := hR1.frozen 1; have g2 := hR1.frozen 2; have g3 := hR1.frozen 3; have g4 := hR1.frozen 4
  simp at r0 r1 r2 r3 r4
  have HGD := hide (GoodV.set5 (g := w.heap.size + 1) hgood (by omega) (.int .i64 kv) (.int .i64 iv) (.string sv) (.slice av nv cv) (.slice bv mv ev))
  go_wp2_with fail
  have hR5 := hR1.five5 (.int .i64 kv) (.int .i64 iv) (.string sv) (.slice av nv cv) (.slice bv mv ev)
  have hB5 := below_set5 hB1 (g := w.heap.size + 1) (by omega) (.int .i64 kv) (.int .i64 iv) (.string sv) (.slice av nv cv) (.slice bv mv ev)
  generalize (((((w1.setCell ⟨w.heap.size + 1, 0, none⟩ (.int .i64 kv)).setCell ⟨w.heap.size + 1, 1, none⟩ (.int .i64 iv)).setCell ⟨w.heap.size + 1, 2, none⟩ (.string sv)).setCell ⟨w.heap.size + 1, 3, none⟩ (.slice av nv cv)).setCell ⟨w.heap.size + 1, 4, none⟩ (.slice bv mv ev)) = W5 at hR5 hB5 HGD ⊢
  have q0 := hR5.cell 0; have q1 := hR5.cell 1; have q2 := hR5.cell 2; have q3 := hR5.cell 3; have q4 := hR5.cell 4
  simp at q0 q1 q2 q3 q4
  (try simp only [Exit.inBlock, Exit.then])
  refine bodyPost_ret (v := .tuple #[.agg #[.int .i64 kv, .int .i64 iv, .string sv, .slice av nv cv, .slice bv mv ev], .int .i64 er]) ?_ rfl ⟨⟨kv, iv, sv, av, nv, cv, bv, mv, ev⟩, er, rfl, HGD.out.less (by omega), hB5⟩
  simp [results, Try.results42, go_sem, q0, q1, q2, q3, q4]
set_option maxHeartbeats 20000000 in
set_option maxRecDepth 100000 in
theorem oneLower (n : Nat) (pl : Bool) (x : VF) (w : World) (hx : ArgV n pl w x.val) : Calls Try.prog 42 #[.string ⟨#[108, 111, 119, 101, 114]⟩, x.val] w (FRes pl w) := by
  have cL : Hid (∀ W, Below w.heap.size w W → Calls Try.prog 56 #[x.val, .func (.func 58) #[] #[]] W (FRes pl W)) :=
    fun W h => lettersG n pl 58 (enters_of Try.func58 (by kernel_rfl) rfl) smallB (fun s W hs => octLower_any s W hs) x W (hx.step h)
  clear hx
  obtain ⟨kx, ix, sx, ax, nx, cx, bx, mx, ex⟩ := x
  have hR0 := Blk.new (w.alloc (.cells #[.int .i64 kx, .int .i64 ix, .string sx, .slice ax nx cx, .slice bx mx ex] 25)) 25 #[.int .i64 0, .int .i64 0, .string ⟨#[]⟩, .slice none 0 0, .slice none 0 0]
  have hB0 := ((Below.refl w.heap.size w).alloc (Nat.le_refl _) (.cells #[.int .i64 kx, .int .i64 ix, .string sx, .slice ax nx cx, .slice bx mx ex] 25)).alloc (by simp) (.cells #[.int .i64 0, .int .i64 0, .string ⟨#[]⟩, .slice none 0 0, .slice none 0 0] 25)
  simp only [World.size_alloc] at hR0
  go_enter Try.func42, Try.ntmps42
  go_wp2_with fail
  have hsz : ((w.alloc (.cells #[.int .i64 kx, .int .i64 ix, .string sx, .slice ax nx cx, .slice bx mx ex] 25)).alloc (.cells #[.int .i64 0, .int .i64 0, .string ⟨#[]⟩, .slice none 0 0, .slice none 0 0] 25)).heap.size = w.heap.size + 1 + 1 := by simp
  generalize (w.alloc (.cells #[.int .i64 kx, .int .i64 ix, .string sx, .slice ax nx cx, .slice bx mx ex] 25)).alloc (.cells #[.int .i64 0, .int .i64 0, .string ⟨#[]⟩, .slice none 0 0, .slice none 0 0] 25) = W0 at hR0 hB0 hsz ⊢
  refine (cL.out _ hB0).mono ?_
  rintro e w1 ⟨⟨kv, iv, sv, av, nv, cv, bv, mv, ev⟩, er, rfl, hgood, hb1⟩
  rw [hsz] at hgood
  have HSZ := hide hsz
  clear hsz
  have hR1 := hR0.below hb1 hR0.lt
  have hB1 := hB0.trans (hb1.mono hB0.size)
  clear hR0 hB0 hb1 cL
  have r0 := hR1.cell 0; have r1 := hR1.cell 1; have r2 := hR1.cell 2; have r3 := hR1.cell 3; have r4 := hR1.cell 4
  have g0 := hR1.frozen 0; have g1 := hR1.frozen 1; have g2 := hR1.frozen 2; have g3 := hR1.frozen 3; have g4 := hR1.frozen 4
  simp at r0 r1 r2 r3 r4
  have HGD := hide (GoodV.set5 (g := w.heap.size + 1) hgood (by omega) (.int .i64 kv) (.int .i64 iv) (.string sv) (.slice av nv cv) (.slice bv mv ev))
  go_wp2_with fail
  have hR5 := hR1.five5 (.int .i64 kv) (.int .i64 iv) (.string sv) (.slice av nv cv) (.slice bv mv ev)
  have hB5 := below_set5 hB1 (g := w.heap.size + 1) (by omega) (.int .i64 kv) (.int .i64 iv) (.string sv) (.slice av nv cv) (.slice bv mv ev)
  generalize (((((w1.setCell ⟨w.heap.size + 1, 0, none⟩ (.int .i64 kv)).setCell ⟨w.heap.size + 1, 1, none⟩ (.int .i64 iv)).setCell ⟨w.heap.size + 1, 2, none⟩ (.string sv)).setCell ⟨w.heap.size + 1, 3, none⟩ (.slice av nv cv)).setCell ⟨w.heap.size + 1, 4, none⟩ (.slice bv mv ev)) = W5 at hR5 hB5 HGD ⊢
  have q0 := hR5.cell 0; have q1 := hR5.cell 1; have q2 := hR5.cell 2; have q3 := hR5.cell 3; have q4 := hR5.cell 4
  simp at q0 q1 q2 q3 q4
  (try simp only [Exit.inBlock, Exit.then])
  refine bodyPost_ret (v := .tuple #[.agg #[.int .i64 kv, .int .i64 iv, .string sv, .slice av nv cv, .slice bv mv ev], .int .i64 er]) ?_ rfl ⟨⟨kv, iv, sv, av, nv, cv, bv, mv, ev⟩, er, rfl, HGD.out.less (by omega), hB5⟩
  simp [results, Try.results42, go_sem, q0, q1, q2, q3, q4]
end Go.Proofs.Ytdnmgpidfjkiaaa
