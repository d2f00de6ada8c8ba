/-
  funcs: what is told may be: made, less, picked, index, letters.
-/
import Derived.Test.YtdnmgpidfjkiaaaVFun2
namespace Go.Proofs.Ytdnmgpidfjkiaaa
open Go.RowKit
set_option linter.unusedVariables false
set_option linter.unusedSimpArgs false

set_option maxHeartbeats 20000000 in
set_option maxRecDepth 100000 in
theorem made_any (pl : Bool) (s : List UInt8) (hs : s.length ≤ 140737488351232) (w : World) : Calls Try.prog 40 #[.string ⟨s.toArray⟩] w (FRes pl w) := by
  have hz : ((⟨s.toArray⟩ : ByteArray).size : Int) = (s.length : Int) := by simp [ByteArray.size]
  have HG := hide (fun (N : Nat) (h : s.length ≤ 4096) (W : World) => goodLeaf N pl W 4 0 s (by unfold headErr; rw [if_neg (by omega), if_neg (by omega), if_neg (by omega), if_neg (by omega), if_neg (by omega)]) hs (by omega))
  obtain ⟨X, hX⟩ : ∃ X : ByteArray, (⟨s.toArray⟩ : ByteArray) = X := ⟨_, rfl⟩
  rw [hX] at hz HG ⊢
  have hR0 := Blk.new w 25 #[.int .i64 0, .int .i64 0, .string ⟨#[]⟩, .slice none 0 0, .slice none 0 0]
  have hB0 := (Below.refl w.heap.size w).alloc (Nat.le_refl _) (.cells #[.int .i64 0, .int .i64 0, .string ⟨#[]⟩, .slice none 0 0, .slice none 0 0] 25)
  have HZ := hide hz
  clear hX hz
  by_cases h : 4096 < s.length
  · have hq : decide ((4096 : Int) < (X.size : Int)) = true := by rw [HZ.out]; exact decide_eq_true (by omega)
    go_enter Try.func40, Try.ntmps40
    go_wp2_with fail
    have q0 := hR0.cell 0; have q1 := hR0.cell 1; have q2 := hR0.cell 2; have q3 := hR0.cell 3; have q4 := hR0.cell 4
    simp at q0 q1 q2 q3 q4
    (try simp only [Exit.inBlock, Exit.then])
    refine bodyPost_ret (v := .tuple #[.agg #[.int .i64 0, .int .i64 0, .string ⟨#[]⟩, .slice none 0 0, .slice none 0 0], .int .i64 5]) ?_ rfl ⟨⟨0, 0, ⟨#[]⟩, none, 0, 0, none, 0, 0⟩, 5, rfl, goodZero _ _ _, hB0⟩
    simp [results, Try.results40, go_sem, q0, q1, q2, q3, q4]
  · have hq : decide ((4096 : Int) < (X.size : Int)) = false := by rw [HZ.out]; exact decide_eq_false (by omega)
    have HG := hide (fun N => HG.out N (by omega))
    go_enter Try.func40, Try.ntmps40
    go_wp2_with fail
    generalize w.alloc (.cells #[.int .i64 0, .int .i64 0, .string ⟨#[]⟩, .slice none 0 0, .slice none 0 0] 25) = W0 at hR0 hB0 ⊢
    refine (textV_any X _).mono ?_
    rintro e w1 ⟨rfl, hb1⟩
    have hR1 := hR0.below hb1 hR0.lt
    have hB1 := hB0.trans (hb1.mono hB0.size)
    clear hR0 hB0 hb1
    have r0 := hR1.cell 0; have r1 := hR1.cell 1; have r2 := hR1.cell 2; have r3 := hR1.cell 3; have r4 := hR1.cell 4
    have g0 := hR1.frozen 0; have g1 := hR1.frozen 1; have g2 := hR1.frozen 2; have g3 := hR1.frozen 3; have g4 := hR1.frozen 4
    simp at r0 r1 r2 r3 r4
    have HGD := hide (GoodV.set5 (g := w.heap.size) (HG.out (w.heap.size + 1) w1) (by omega) (.int .i64 4) (.int .i64 0) (.string X) (.slice none 0 0) (.slice none 0 0))
    go_wp2_with fail
    have hR5 := hR1.five5 (.int .i64 4) (.int .i64 0) (.string X) (.slice none 0 0) (.slice none 0 0)
    have hB5 := below_set5 hB1 (g := w.heap.size) (by omega) (.int .i64 4) (.int .i64 0) (.string X) (.slice none 0 0) (.slice none 0 0)
    generalize (((((w1.setCell ⟨w.heap.size, 0, none⟩ (.int .i64 4)).setCell ⟨w.heap.size, 1, none⟩ (.int .i64 0)).setCell ⟨w.heap.size, 2, none⟩ (.string X)).setCell ⟨w.heap.size, 3, none⟩ (.slice none 0 0)).setCell ⟨w.heap.size, 4, none⟩ (.slice none 0 0)) = W5 at hR5 hB5 HGD ⊢
    have q0 := hR5.cell 0; have q1 := hR5.cell 1; have q2 := hR5.cell 2; have q3 := hR5.cell 3; have q4 := hR5.cell 4
    simp at q0 q1 q2 q3 q4
    (try simp only [Exit.inBlock, Exit.then])
    refine bodyPost_ret (v := .tuple #[.agg #[.int .i64 4, .int .i64 0, .string X, .slice none 0 0, .slice none 0 0], .int .i64 0]) ?_ rfl ⟨⟨4, 0, X, none, 0, 0, none, 0, 0⟩, 0, rfl, HGD.out.less (by omega), hB5⟩
    simp [results, Try.results40, go_sem, q0, q1, q2, q3, q4]
/-- A truth may be. -/
theorem goodTruth (N : Nat) (pl : Bool) (b : Bool) (w : World) : GoodV N pl w (valV (truthK b) 0 ⟨#[]⟩ none 0 0 none 0 0) := by
  cases b
  · exact goodLeaf N pl w 1 0 [] (by decide) (by decide) (by decide)
  · exact goodLeaf N pl w 2 0 [] (by decide) (by decide) (by decide)
set_option maxHeartbeats 20000000 in
set_option maxRecDepth 100000 in
theorem lessG (pl : Bool) (x z : VF) (w : World) : Calls Try.prog 60 #[x.val, z.val] w (FRes pl w) := by
  obtain ⟨kx, ix, sx, ax, nx, cx, bx, mx, ex⟩ := x
  obtain ⟨kz, iz, sz, az, nz, cz, bz, mz, ez⟩ := z
  have hR0 := Blk.new ((w.alloc (.cells #[.int .i64 kx, .int .i64 ix, .string sx, .slice ax nx cx, .slice bx mx ex] 25)).alloc (.cells #[.int .i64 kz, .int .i64 iz, .string sz, .slice az nz cz, .slice bz mz ez] 25)) 25 #[.int .i64 0, .int .i64 0, .string ⟨#[]⟩, .slice none 0 0, .slice none 0 0]
  have hB0 := (((Below.refl w.heap.size w).alloc (Nat.le_refl _) (.cells #[.int .i64 kx, .int .i64 ix, .string sx, .slice ax nx cx, .slice bx mx ex] 25)).alloc (by simp) (.cells #[.int .i64 kz, .int .i64 iz, .string sz, .slice az nz cz, .slice bz mz ez] 25)).alloc (by simp; omega) (.cells #[.int .i64 0, .int .i64 0, .string ⟨#[]⟩, .slice none 0 0, .slice none 0 0] 25)
  simp only [World.size_alloc] at hR0
  by_cases h3 : kx = 3
  · subst h3
    by_cases g3 : kz = 3
    · subst g3
      generalize hd : decide (ix < iz) = d
      have cT := hide (truth_any d)
      go_enter Try.func60, Try.ntmps60
      go_wp2_with fail
      (try rw [hd])
      generalize ((w.alloc (.cells #[.int .i64 3, .int .i64 ix, .string sx, .slice ax nx cx, .slice bx mx ex] 25)).alloc (.cells #[.int .i64 3, .int .i64 iz, .string sz, .slice az nz cz, .slice bz mz ez] 25)).alloc (.cells #[.int .i64 0, .int .i64 0, .string ⟨#[]⟩, .slice none 0 0, .slice none 0 0] 25) = W0 at hR0 hB0 ⊢
      refine (cT.out _).mono ?_
      rintro e w1 ⟨rfl, hb1⟩
      have hR1 := hR0.below hb1 hR0.lt
      have hB1 := hB0.trans (hb1.mono hB0.size)
      clear hR0 hB0 hb1
      have r0 := hR1.cell 0; have r1 := hR1.cell 1; have r2 := hR1.cell 2; have r3 := hR1.cell 3; have r4 := hR1.cell 4
      have g0 := hR1.frozen 0; have g1 := hR1.frozen 1; have g2 := hR1.frozen 2; have g3 := hR1.frozen 3; have g4 := hR1.frozen 4
      simp at r0 r1 r2 r3 r4
      have HGD := hide (GoodV.set5 (g := w.heap.size + 1 + 1) (goodTruth (w.heap.size + 1 + 1 + 1) pl d w1) (by omega) (.int .i64 (truthK d)) (.int .i64 0) (.string ⟨#[]⟩) (.slice none 0 0) (.slice none 0 0))
      go_wp2_with fail
      have hR5 := hR1.five5 (.int .i64 (truthK d)) (.int .i64 0) (.string ⟨#[]⟩) (.slice none 0 0) (.slice none 0 0)
      have hB5 := below_set5 hB1 (g := w.heap.size + 1 + 1) (by omega) (.int .i64 (truthK d)) (.int .i64 0) (.string ⟨#[]⟩) (.slice none 0 0) (.slice none 0 0)
      generalize (((((w1.setCell ⟨w.heap.size + 1 + 1, 0, none⟩ (.int .i64 (truthK d))).setCell ⟨w.heap.size + 1 + 1, 1, none⟩ (.int .i64 0)).setCell ⟨w.heap.size + 1 + 1, 2, none⟩ (.string ⟨#[]⟩)).setCell ⟨w.heap.size + 1 + 1, 3, none⟩ (.slice none 0 0)).setCell ⟨w.heap.size + 1 + 1, 4, none⟩ (.slice none 0 0)) = W5 at hR5 hB5 HGD ⊢
      have q0 := hR5.cell 0; have q1 := hR5.cell 1; have q2 := hR5.cell 2; have q3 := hR5.cell 3; have q4 := hR5.cell 4
      simp at q0 q1 q2 q3 q4
      (try simp only [Exit.inBlock, Exit.then])
      refine bodyPost_ret (v := .tuple #[.agg #[.int .i64 (truthK d), .int .i64 0, .string ⟨#[]⟩, .slice none 0 0, .slice none 0 0], .int .i64 0]) ?_ rfl ⟨⟨truthK d, 0, ⟨#[]⟩, none, 0, 0, none, 0, 0⟩, 0, rfl, HGD.out.less (by omega), hB5⟩
      simp [results, Try.results60, go_sem, q0, q1, q2, q3, q4]
    · have q3 : (kz == 3) = false := by rw [beq_eq_false_iff_ne]; exact g3
      go_enter Try.func60, Try.ntmps60
      go_wp2_with fail
      have q0 := hR0.cell 0; have q1 := hR0.cell 1; have q2 := hR0.cell 2; have q3 := hR0.cell 3; have q4 := hR0.cell 4
      simp at q0 q1 q2 q3 q4
      (try simp only [Exit.inBlock, Exit.then])
      refine bodyPost_ret (v := .tuple #[.agg #[.int .i64 0, .int .i64 0, .string ⟨#[]⟩, .slice none 0 0, .slice none 0 0], .int .i64 13]) ?_ rfl ⟨⟨0, 0, ⟨#[]⟩, none, 0, 0, none, 0, 0⟩, 13, rfl, goodZero _ _ _, hB0⟩
      simp [results, Try.results60, go_sem, q0, q1, q2, q3, q4]
  by_cases h4 : kx = 4
  · subst h4
    by_cases g4 : kz = 4
    · subst g4
      generalize hd : Op.bytesLess sx.toList sz.toList = d
      have cT := hide (truth_any d)
      go_enter Try.func60, Try.ntmps60
      go_wp2_with fail
      (try rw [hd])
      generalize ((w.alloc (.cells #[.int .i64 4, .int .i64 ix, .string sx, .slice ax nx cx, .slice bx mx ex] 25)).alloc (.cells #[.int .i64 4, .int .i64 iz, .string sz, .slice az nz cz, .slice bz mz ez] 25)).alloc (.cells #[.int .i64 0, .int .i64 0, .string ⟨#[]⟩, .slice none 0 0, .slice none 0 0] 25) = W0 at hR0 hB0 ⊢
      refine (cT.out _).mono ?_
      rintro e w1 ⟨rfl, hb1⟩
      have hR1 := hR0.below hb1 hR0.lt
      have hB1 := hB0.trans (hb1.mono hB0.size)
      clear hR0 hB0 hb1
      have r0 := hR1.cell 0; have r1 := hR1.cell 1; have r2 := hR1.cell 2; have r3 := hR1.cell 3; have r4 := hR1.cell 4
      have g0 := hR1.frozen 0; have g1 := hR1.frozen 1; have g2 := hR1.frozen 2; have g3 := hR1.frozen 3; have g4 := hR1.frozen 4
      simp at r0 r1 r2 r3 r4
      have HGD := hide (GoodV.set5 (g := w.heap.size + 1 + 1) (goodTruth (w.heap.size + 1 + 1 + 1) pl d w1) (by omega) (.int .i64 (truthK d)) (.int .i64 0) (.string ⟨#[]⟩) (.slice none 0 0) (.slice none 0 0))
      go_wp2_with fail
      have hR5 := hR1.five5 (.int .i64 (truthK d)) (.int .i64 0) (.string ⟨#[]⟩) (.slice none 0 0) (.slice none 0 0)
      have hB5 := below_set5 hB1 (g := w.heap.size + 1 + 1) (by omega) (.int .i64 (truthK d)) (.int .i64 0) (.string ⟨#[]⟩) (.slice none 0 0) (.slice none 0 0)
      generalize (((((w1.setCell ⟨w.heap.size + 1 + 1, 0, none⟩ (.int .i64 (truthK d))).setCell ⟨w.heap.size + 1 + 1, 1, none⟩ (.int .i64 0)).setCell ⟨w.heap.size + 1 + 1, 2, none⟩ (.string ⟨#[]⟩)).setCell ⟨w.heap.size + 1 + 1, 3, none⟩ (.slice none 0 0)).setCell ⟨w.heap.size + 1 + 1, 4, none⟩ (.slice none 0 0)) = W5 at hR5 hB5 HGD ⊢
      have q0 := hR5.cell 0; have q1 := hR5.cell 1; have q2 := hR5.cell 2; have q3 := hR5.cell 3; have q4 := hR5.cell 4
      simp at q0 q1 q2 q3 q4
      (try simp only [Exit.inBlock, Exit.then])
      refine bodyPost_ret (v := .tuple #[.agg #[.int .i64 (truthK d), .int .i64 0, .string ⟨#[]⟩, .slice none 0 0, .slice none 0 0], .int .i64 0]) ?_ rfl ⟨⟨truthK d, 0, ⟨#[]⟩, none, 0, 0, none, 0, 0⟩, 0, rfl, HGD.out.less (by omega), hB5⟩
      simp [results, Try.results60, go_sem, q0, q1, q2, q3, q4]
    · have q4 : (kz == 4) = false := by rw [beq_eq_false_iff_ne]; exact g4
      go_enter Try.func60, Try.ntmps60
      go_wp2_with fail
      have q0 := hR0.cell 0; have q1 := hR0.cell 1; have q2 := hR0.cell 2; have q3 := hR0.cell 3; have q4 := hR0.cell 4
      simp at q0 q1 q2 q3 q4
      (try simp only [Exit.inBlock, Exit.then])
      refine bodyPost_ret (v := .tuple #[.agg #[.int .i64 0, .int .i64 0, .string ⟨#[]⟩, .slice none 0 0, .slice none 0 0], .int .i64 13]) ?_ rfl ⟨⟨0, 0, ⟨#[]⟩, none, 0, 0, none, 0, 0⟩, 13, rfl, goodZero _ _ _, hB0⟩
      simp [results, Try.results60, go_sem, q0, q1, q2, q3, q4]
  · have q3 : (kx == 3) = false := by rw [beq_eq_false_iff_ne]; exact h3
    have q4 : (kx == 4) = false := by rw [beq_eq_false_iff_ne]; exact h4
    go_enter Try.func60, Try.ntmps60
    go_wp2_with fail
    have q0 := hR0.cell 0; have q1 := hR0.cell 1; have q2 := hR0.cell 2; have q3 := hR0.cell 3; have q4 := hR0.cell 4
    simp at q0 q1 q2 q3 q4
    (try simp only [Exit.inBlock, Exit.then])
    refine bodyPost_ret (v := .tuple #[.agg #[.int .i64 0, .int .i64 0, .string ⟨#[]⟩, .slice none 0 0, .slice none 0 0], .int .i64 13]) ?_ rfl ⟨⟨0, 0, ⟨#[]⟩, none, 0, 0, none, 0, 0⟩, 13, rfl, goodZero _ _ _, hB0⟩
    simp [results, Try.results60, go_sem, q0, q1, q2, q3, q4]
end Go.Proofs.Ytdnmgpidfjkiaaa
