/-
  funcs: what is told may be: two.
-/
import Derived.Test.YtdnmgpidfjkiaaaVFun5
import Derived.Test.YtdnmgpidfjkiaaaQTail
import Derived.Deep.RegionWith
namespace Go.Proofs.Ytdnmgpidfjkiaaa
open Go.RowKit
set_option linter.unusedVariables false
set_option linter.unusedSimpArgs false

/-- Is a value true? -/
def truthVF (x : VF) : Bool := if x.k = 0 then false else if x.k = 1 then false else if x.k = 2 then true else if x.k = 3 then x.i != 0 else if x.k = 5 ∨ x.k = 6 then decide (x.n ≠ 0) else !x.s.toList.isEmpty
set_option maxHeartbeats 20000000 in
set_option maxRecDepth 100000 in
theorem valTruth_is (x : VF) (w : World) : Calls Try.prog 33 #[x.val] w fun e w' => e = .returned (.bool (truthVF x)) ∧ Below w.heap.size w w' := by
  obtain ⟨kx, ix, sx, ax, nx, cx, bx, mx, ex⟩ := x
  by_cases h0 : kx = 0
  · subst h0
    have hT : truthVF ⟨0, ix, sx, ax, nx, cx, bx, mx, ex⟩ = false := by simp [truthVF]
    rw [hT]
    clear hT
    go_enter Try.func33, Try.ntmps33
    go_wp2_with fail
    go_ret
    exact ⟨rfl, (Below.refl _ _).alloc (Nat.le_refl _) _⟩
  have q0 : (kx == 0) = false := by rw [beq_eq_false_iff_ne]; exact h0
  by_cases h1 : kx = 1
  · subst h1
    have hT : truthVF ⟨1, ix, sx, ax, nx, cx, bx, mx, ex⟩ = false := by simp [truthVF]
    rw [hT]
    clear hT
    go_enter Try.func33, Try.ntmps33
    go_wp2_with fail
    go_ret
    exact ⟨rfl, (Below.refl _ _).alloc (Nat.le_refl _) _⟩
  have q1 : (kx == 1) = false := by rw [beq_eq_false_iff_ne]; exact h1
  by_cases h2 : kx = 2
  · subst h2
    have hT : truthVF ⟨2, ix, sx, ax, nx, cx, bx, mx, ex⟩ = true := by simp [truthVF]
    rw [hT]
    clear hT
    go_enter Try.func33, Try.ntmps33
    go_wp2_with fail
    go_ret
    exact ⟨rfl, (Below.refl _ _).alloc (Nat.le_refl _) _⟩
  have q2 : (kx == 2) = false := by rw [beq_eq_false_iff_ne]; exact h2
  by_cases h3 : kx = 3
  · subst h3
    have hT : truthVF ⟨3, ix, sx, ax, nx, cx, bx, mx, ex⟩ = (ix != 0) := by simp [truthVF]
    rw [hT]
    clear hT
    go_enter Try.func33, Try.ntmps33
    go_wp2_with fail
    go_ret
    exact ⟨rfl, (Below.refl _ _).alloc (Nat.le_refl _) _⟩
  have q3 : (kx == 3) = false := by rw [beq_eq_false_iff_ne]; exact h3
  by_cases h5 : kx = 5
  · subst h5
    by_cases hn : nx = 0
    · subst hn
      have hT : truthVF ⟨5, ix, sx, ax, 0, cx, bx, mx, ex⟩ = false := by simp [truthVF]
      rw [hT]
      clear hT
      go_enter Try.func33, Try.ntmps33
      go_wp2_with fail
      go_ret
      exact ⟨rfl, (Below.refl _ _).alloc (Nat.le_refl _) _⟩
    · have hq : decide (0 < nx) = true := decide_eq_true (by omega)
      have hT : truthVF ⟨5, ix, sx, ax, nx, cx, bx, mx, ex⟩ = true := by simp [truthVF, hn]
      rw [hT]
      clear hT
      go_enter Try.func33, Try.ntmps33
      go_wp2_with fail
      go_ret
      exact ⟨rfl, (Below.refl _ _).alloc (Nat.le_refl _) _⟩
  have q5 : (kx == 5) = false := by rw [beq_eq_false_iff_ne]; exact h5
  by_cases h6 : kx = 6
  · subst h6
    by_cases hn : nx = 0
    · subst hn
      have hT : truthVF ⟨6, ix, sx, ax, 0, cx, bx, mx, ex⟩ = false := by simp [truthVF]
      rw [hT]
      clear hT
      go_enter Try.func33, Try.ntmps33
      go_wp2_with fail
      go_ret
      exact ⟨rfl, (Below.refl _ _).alloc (Nat.le_refl _) _⟩
    · have hq : decide (0 < nx) = true := decide_eq_true (by omega)
      have hT : truthVF ⟨6, ix, sx, ax, nx, cx, bx, mx, ex⟩ = true := by simp [truthVF, hn]
      rw [hT]
      clear hT
      go_enter Try.func33, Try.ntmps33
      go_wp2_with fail
      go_ret
      exact ⟨rfl, (Below.refl _ _).alloc (Nat.le_refl _) _⟩
  have q6 : (kx == 6) = false := by rw [beq_eq_false_iff_ne]; exact h6
  rcases Bool.eq_false_or_eq_true sx.toList.isEmpty with h | h
  · have hT : truthVF ⟨kx, ix, sx, ax, nx, cx, bx, mx, ex⟩ = false := by simp [truthVF, h0, h1, h2, h3, h5, h6, h]
    rw [hT]
    clear hT
    go_enter Try.func33, Try.ntmps33
    go_wp2_with fail
    go_ret
    exact ⟨rfl, (Below.refl _ _).alloc (Nat.le_refl _) _⟩
  · have hT : truthVF ⟨kx, ix, sx, ax, nx, cx, bx, mx, ex⟩ = true := by simp [truthVF, h0, h1, h2, h3, h5, h6, h]
    rw [hT]
    clear hT
    go_enter Try.func33, Try.ntmps33
    go_wp2_with fail
    go_ret
    exact ⟨rfl, (Below.refl _ _).alloc (Nat.le_refl _) _⟩
set_option maxHeartbeats 20000000 in
set_option maxRecDepth 100000 in
theorem twoLt (n : Nat) (pl : Bool) (x z : VF) (w : World) (hx : ArgV n pl w x.val) (hz : ArgV n pl w z.val) : Calls Try.prog 43 #[.string ⟨#[108, 116]⟩, x.val, z.val] w (FRes pl w) := by
  have cT := hide (fun W (h : Below w.heap.size w W) => lessG pl x z W)
  clear hx hz
  obtain ⟨kx, ix, sx, ax, nx, cx, bx, mx, ex⟩ := x
  obtain ⟨kz, iz, sz, az, nz, cz, bz, mz, ez⟩ := z
  have hR0 := Blk.new ((w.alloc (.cells #[.int .i64 kx, .int .i64 ix, .string sx, .slice ax nx cx, .slice bx mx ex] 25)).alloc (.cells #[.int .i64 kz, .int .i64 iz, .string sz, .slice az nz cz, .slice bz mz ez] 25)) 25 #[.int .i64 0, .int .i64 0, .string ⟨#[]⟩, .slice none 0 0, .slice none 0 0]
  have hB0 := (((Below.refl w.heap.size w).alloc (Nat.le_refl _) (.cells #[.int .i64 kx, .int .i64 ix, .string sx, .slice ax nx cx, .slice bx mx ex] 25)).alloc (by simp) (.cells #[.int .i64 kz, .int .i64 iz, .string sz, .slice az nz cz, .slice bz mz ez] 25)).alloc (by simp; omega) (.cells #[.int .i64 0, .int .i64 0, .string ⟨#[]⟩, .slice none 0 0, .slice none 0 0] 25)
  simp only [World.size_alloc] at hR0
  go_enter Try.func43, Try.ntmps43
  go_wp2_with fail
  have hsz : (((w.alloc (.cells #[.int .i64 kx, .int .i64 ix, .string sx, .slice ax nx cx, .slice bx mx ex] 25)).alloc (.cells #[.int .i64 kz, .int .i64 iz, .string sz, .slice az nz cz, .slice bz mz ez] 25)).alloc (.cells #[.int .i64 0, .int .i64 0, .string ⟨#[]⟩, .slice none 0 0, .slice none 0 0] 25)).heap.size = w.heap.size + 1 + 1 + 1 := by simp
  generalize ((w.alloc (.cells #[.int .i64 kx, .int .i64 ix, .string sx, .slice ax nx cx, .slice bx mx ex] 25)).alloc (.cells #[.int .i64 kz, .int .i64 iz, .string sz, .slice az nz cz, .slice bz mz ez] 25)).alloc (.cells #[.int .i64 0, .int .i64 0, .string ⟨#[]⟩, .slice none 0 0, .slice none 0 0] 25) = W0 at hR0 hB0 hsz ⊢
  have HSZ := hide hsz
  clear hsz
  refine (cT.out _ hB0).mono ?_
  rintro e w1 ⟨⟨kv, iv, sv, av, nv, cv, bv, mv, ev⟩, er, rfl, hgood, hb1⟩
  have hgood := hgood.less (N := w.heap.size + 1 + 1 + 1) (by have := HSZ.out; have := hB0.size; omega)
  have hR1 := hR0.below hb1 hR0.lt
  have hB1 := hB0.trans (hb1.mono hB0.size)
  clear hR0 hB0 hb1 cT
  have r0 := hR1.cell 0; have r1 := hR1.cell 1; have r2 := hR1.cell 2; have r3 := hR1.cell 3; have r4 := hR1.cell 4
  have g0 := hR1.frozen 0; have g1 := hR1.frozen 1; have g2 := hR1.frozen 2; have g3 := hR1.frozen 3; have g4 := hR1.frozen 4
  simp at r0 r1 r2 r3 r4
  have HGD := hide (GoodV.set5 (g := w.heap.size + 1 + 1) hgood (by omega) (.int .i64 kv) (.int .i64 iv) (.string sv) (.slice av nv cv) (.slice bv mv ev))
  go_wp2_with fail
  have hR5 := hR1.five5 (.int .i64 kv) (.int .i64 iv) (.string sv) (.slice av nv cv) (.slice bv mv ev)
  have hB5 := below_set5 hB1 (g := w.heap.size + 1 + 1) (by omega) (.int .i64 kv) (.int .i64 iv) (.string sv) (.slice av nv cv) (.slice bv mv ev)
  generalize (((((w1.setCell ⟨w.heap.size + 1 + 1, 0, none⟩ (.int .i64 kv)).setCell ⟨w.heap.size + 1 + 1, 1, none⟩ (.int .i64 iv)).setCell ⟨w.heap.size + 1 + 1, 2, none⟩ (.string sv)).setCell ⟨w.heap.size + 1 + 1, 3, none⟩ (.slice av nv cv)).setCell ⟨w.heap.size + 1 + 1, 4, none⟩ (.slice bv mv ev)) = W5 at hR5 hB5 HGD ⊢
  have q0 := hR5.cell 0; have q1 := hR5.cell 1; have q2 := hR5.cell 2; have q3 := hR5.cell 3; have q4 := hR5.cell 4
  simp at q0 q1 q2 q3 q4
  (try simp only [Exit.inBlock, Exit.then])
  refine bodyPost_ret (v := .tuple #[.agg #[.int .i64 kv, .int .i64 iv, .string sv, .slice av nv cv, .slice bv mv ev], .int .i64 er]) ?_ rfl ⟨⟨kv, iv, sv, av, nv, cv, bv, mv, ev⟩, er, rfl, HGD.out.less (by omega), hB5⟩
  simp [results, Try.results43, go_sem, q0, q1, q2, q3, q4]
set_option maxHeartbeats 20000000 in
set_option maxRecDepth 100000 in
theorem twoIndex (n : Nat) (pl : Bool) (x z : VF) (w : World) (hx : ArgV n pl w x.val) (hz : ArgV n pl w z.val) : Calls Try.prog 43 #[.string ⟨#[105, 110, 100, 101, 120]⟩, x.val, z.val] w (FRes pl w) := by
  have cT := hide (fun W (h : Below w.heap.size w W) => indexG n pl x z W (hx.step h) (hz.step h))
  clear hx hz
  obtain ⟨kx, ix, sx, ax, nx, cx, bx, mx, ex⟩ := x
  obtain ⟨kz, iz, sz, az, nz, cz, bz, mz, ez⟩ := z
  have hR0 := Blk.new ((w.alloc (.cells #[.int .i64 kx, .int .i64 ix, .string sx, .slice ax nx cx, .slice bx mx ex] 25)).alloc (.cells #[.int .i64 kz, .int .i64 iz, .string sz, .slice az nz cz, .slice bz mz ez] 25)) 25 #[.int .i64 0, .int .i64 0, .string ⟨#[]⟩, .slice none 0 0, .slice none 0 0]
  have hB0 := (((Below.refl w.heap.size w).alloc (Nat.le_refl _) (.cells #[.int .i64 kx, .int .i64 ix, .string sx, .slice ax nx cx, .slice bx mx ex] 25)).alloc (by simp) (.cells #[.int .i64 kz, .int .i64 iz, .string sz, .slice az nz cz, .slice bz mz ez] 25)).alloc (by simp; omega) (.cells #[.int .i64 0, .int .i64 0, .string ⟨#[]⟩, .slice none 0 0, .slice none 0 0] 25)
  simp only [World.size_alloc] at hR0
  go_enter Try.func43, Try.ntmps43
  go_wp2_with fail
  have hsz : (((w.alloc (.cells #[.int .i64 kx, .int .i64 ix, .string sx, .slice ax nx cx, .slice bx mx ex] 25)).alloc (.cells #[.int .i64 kz, .int .i64 iz, .string sz, .slice az nz cz, .slice bz mz ez] 25)).alloc (.cells #[.int .i64 0, .int .i64 0, .string ⟨#[]⟩, .slice none 0 0, .slice none 0 0] 25)).heap.size = w.heap.size + 1 + 1 + 1 := by simp
  generalize ((w.alloc (.cells #[.int .i64 kx, .int .i64 ix, .string sx, .slice ax nx cx, .slice bx mx ex] 25)).alloc (.cells #[.int .i64 kz, .int .i64 iz, .string sz, .slice az nz cz, .slice bz mz ez] 25)).alloc (.cells #[.int .i64 0, .int .i64 0, .string ⟨#[]⟩, .slice none 0 0, .slice none 0 0] 25) = W0 at hR0 hB0 hsz ⊢
  have HSZ := hide hsz
  clear hsz
  refine (cT.out _ hB0).mono ?_
  rintro e w1 ⟨⟨kv, iv, sv, av, nv, cv, bv, mv, ev⟩, er, rfl, hgood, hb1⟩
  have hgood := hgood.less (N := w.heap.size + 1 + 1 + 1) (by have := HSZ.out; have := hB0.size; omega)
  have hR1 := hR0.below hb1 hR0.lt
  have hB1 := hB0.trans (hb1.mono hB0.size)
  clear hR0 hB0 hb1 cT
  have r0 := hR1.cell 0; have r1 := hR1.cell 1; have r2 := hR1.cell 2; have r3 := hR1.cell 3; have r4 := hR1.cell 4
  have g0 := hR1.frozen 0; have g1 := hR1.frozen 1; have g2 := hR1.frozen 2; have g3 := hR1.frozen 3; have g4 := hR1.frozen 4
  simp at r0 r1 r2 r3 r4
  have HGD := hide (GoodV.set5 (g := w.heap.size + 1 + 1) hgood (by omega) (.int .i64 kv) (.int .i64 iv) (.string sv) (.slice av nv cv) (.slice bv mv ev))
  go_wp2_with fail
  have hR5 := hR1.five5 (.int .i64 kv) (.int .i64 iv) (.string sv) (.slice av nv cv) (.slice bv mv ev)
  have hB5 := below_set5 hB1 (g := w.heap.size + 1 + 1) (by omega) (.int .i64 kv) (.int .i64 iv) (.string sv) (.slice av nv cv) (.slice bv mv ev)
  generalize (((((w1.setCell ⟨w.heap.size + 1 + 1, 0, none⟩ (.int .i64 kv)).setCell ⟨w.heap.size + 1 + 1, 1, none⟩ (.int .i64 iv)).setCell ⟨w.heap.size + 1 + 1, 2, none⟩ (.string sv)).setCell ⟨w.heap.size + 1 + 1, 3, none⟩ (.slice av nv cv)).setCell ⟨w.heap.size + 1 + 1, 4, none⟩ (.slice bv mv ev)) = W5 at hR5 hB5 HGD ⊢
  have q0 := hR5.cell 0; have q1 := hR5.cell 1; have q2 := hR5.cell 2; have q3 := hR5.cell 3; have q4 := hR5.cell 4
  simp at q0 q1 q2 q3 q4
  (try simp only [Exit.inBlock, Exit.then])
  refine bodyPost_ret (v := .tuple #[.agg #[.int .i64 kv, .int .i64 iv, .string sv, .slice av nv cv, .slice bv mv ev], .int .i64 er]) ?_ rfl ⟨⟨kv, iv, sv, av, nv, cv, bv, mv, ev⟩, er, rfl, HGD.out.less (by omega), hB5⟩
  simp [results, Try.results43, go_sem, q0, q1, q2, q3, q4]
set_option maxHeartbeats 20000000 in
set_option maxRecDepth 100000 in
theorem twoEq (n : Nat) (pl : Bool) (x z : VF) (w : World) (hx : ArgV n pl w x.val) (hz : ArgV n pl w z.val) : Calls Try.prog 43 #[.string ⟨#[101, 113]⟩, x.val, z.val] w (FRes pl w) := by
  have cU : Hid (∀ W, Below w.heap.size w W → Calls Try.prog 59 #[x.val, z.val] W fun e w' => ∃ b, e = .returned (.bool b) ∧ Below W.heap.size W w') := by
    intro W h
    obtain ⟨d, hV, hs, _, _, _, _⟩ := hx
    obtain ⟨d2, hV2, _, _, _, _, _⟩ := hz
    exact (valSame_any (n + 1) anyB anyB any_okF any_okF _ _ d d2 W (hV.anyF h) (hV2.anyF h) hs).mono fun e w' h => ⟨_, h.1, h.2⟩
  clear hx hz
  obtain ⟨kx, ix, sx, ax, nx, cx, bx, mx, ex⟩ := x
  obtain ⟨kz, iz, sz, az, nz, cz, bz, mz, ez⟩ := z
  have hR0 := Blk.new ((w.alloc (.cells #[.int .i64 kx, .int .i64 ix, .string sx, .slice ax nx cx, .slice bx mx ex] 25)).alloc (.cells #[.int .i64 kz, .int .i64 iz, .string sz, .slice az nz cz, .slice bz mz ez] 25)) 25 #[.int .i64 0, .int .i64 0, .string ⟨#[]⟩, .slice none 0 0, .slice none 0 0]
  have hB0 := (((Below.refl w.heap.size w).alloc (Nat.le_refl _) (.cells #[.int .i64 kx, .int .i64 ix, .string sx, .slice ax nx cx, .slice bx mx ex] 25)).alloc (by simp) (.cells #[.int .i64 kz, .int .i64 iz, .string sz, .slice az nz cz, .slice bz mz ez] 25)).alloc (by simp; omega) (.cells #[.int .i64 0, .int .i64 0, .string ⟨#[]⟩, .slice none 0 0, .slice none 0 0] 25)
  simp only [World.size_alloc] at hR0
  go_enter Try.func43, Try.ntmps43
  go_wp2_with fail
  have hsz : (((w.alloc (.cells #[.int .i64 kx, .int .i64 ix, .string sx, .slice ax nx cx, .slice bx mx ex] 25)).alloc (.cells #[.int .i64 kz, .int .i64 iz, .string sz, .slice az nz cz, .slice bz mz ez] 25)).alloc (.cells #[.int .i64 0, .int .i64 0, .string ⟨#[]⟩, .slice none 0 0, .slice none 0 0] 25)).heap.size = w.heap.size + 1 + 1 + 1 := by simp
  generalize ((w.alloc (.cells #[.int .i64 kx, .int .i64 ix, .string sx, .slice ax nx cx, .slice bx mx ex] 25)).alloc (.cells #[.int .i64 kz, .int .i64 iz, .string sz, .slice az nz cz, .slice bz mz ez] 25)).alloc (.cells #[.int .i64 0, .int .i64 0, .string ⟨#[]⟩, .slice none 0 0, .slice none 0 0] 25) = W0 at hR0 hB0 hsz ⊢
  have HSZ := hide hsz
  clear hsz
  refine (cU.out _ hB0).mono ?_
  rintro e w0 ⟨b, rfl, hb0⟩
  have hR0 := hR0.below hb0 hR0.lt
  have HSZ := hide (show w.heap.size + 1 + 1 + 1 ≤ w0.heap.size by have := HSZ.out; have := hb0.size; omega)
  have hB0 := hB0.trans (hb0.mono hB0.size)
  clear hb0
  clear cU
  go_wp2_with fail
  refine (truth_any b _).mono ?_
  rintro e w1 ⟨rfl, hb1⟩
  have hgood := (goodTruth (w.heap.size + 1 + 1 + 1) pl b w1)
  have hR1 := hR0.below hb1 hR0.lt
  have hB1 := hB0.trans (hb1.mono hB0.size)
  clear hR0 hB0 hb1
  have r0 := hR1.cell 0; have r1 := hR1.cell 1; have r2 := hR1.cell 2; have r3 := hR1.cell 3; have r4 := hR1.cell 4
  have g0 := hR1.frozen 0; have g1 := hR1.frozen 1; have g2 := hR1.frozen 2; have g3 := hR1.frozen 3; have g4 := hR1.frozen 4
  simp at r0 r1 r2 r3 r4
  have HGD := hide (GoodV.set5 (g := w.heap.size + 1 + 1) hgood (by omega) (.int .i64 (truthK b)) (.int .i64 0) (.string ⟨#[]⟩) (.slice none 0 0) (.slice none 0 0))
  go_wp2_with fail
  have hR5 := hR1.five5 (.int .i64 (truthK b)) (.int .i64 0) (.string ⟨#[]⟩) (.slice none 0 0) (.slice none 0 0)
  have hB5 := below_set5 hB1 (g := w.heap.size + 1 + 1) (by omega) (.int .i64 (truthK b)) (.int .i64 0) (.string ⟨#[]⟩) (.slice none 0 0) (.slice none 0 0)
  generalize (((((w1.setCell ⟨w.heap.size + 1 + 1, 0, none⟩ (.int .i64 (truthK b))).setCell ⟨w.heap.size + 1 + 1, 1, none⟩ (.int .i64 0)).setCell ⟨w.heap.size + 1 + 1, 2, none⟩ (.string ⟨#[]⟩)).setCell ⟨w.heap.size + 1 + 1, 3, none⟩ (.slice none 0 0)).setCell ⟨w.heap.size + 1 + 1, 4, none⟩ (.slice none 0 0)) = W5 at hR5 hB5 HGD ⊢
  have q0 := hR5.cell 0; have q1 := hR5.cell 1; have q2 := hR5.cell 2; have q3 := hR5.cell 3; have q4 := hR5.cell 4
  simp at q0 q1 q2 q3 q4
  (try simp only [Exit.inBlock, Exit.then])
  refine bodyPost_ret (v := .tuple #[.agg #[.int .i64 (truthK b), .int .i64 0, .string ⟨#[]⟩, .slice none 0 0, .slice none 0 0], .int .i64 0]) ?_ rfl ⟨⟨truthK b, 0, ⟨#[]⟩, none, 0, 0, none, 0, 0⟩, 0, rfl, HGD.out.less (by omega), hB5⟩
  simp [results, Try.results43, go_sem, q0, q1, q2, q3, q4]
set_option maxHeartbeats 20000000 in
set_option maxRecDepth 100000 in
theorem twoJoin (n : Nat) (pl : Bool) (x z : VF) (w : World) (hx : ArgV n pl w x.val) (hz : ArgV n pl w z.val) : Calls Try.prog 43 #[.string ⟨#[106, 111, 105, 110]⟩, x.val, z.val] w (FRes pl w) := by
  obtain ⟨d, hV, hs, hc, hN, hM, _⟩ := hx
  obtain ⟨d2, hV2, hs2, hc2, _, _, _⟩ := hz
  obtain ⟨kx, ix, sx, ax, nx, cx, bx, mx, ex⟩ := x
  obtain ⟨kz, iz, sz, az, nz, cz, bz, mz, ez⟩ := z
  have hR0 := Blk.new ((w.alloc (.cells #[.int .i64 kx, .int .i64 ix, .string sx, .slice ax nx cx, .slice bx mx ex] 25)).alloc (.cells #[.int .i64 kz, .int .i64 iz, .string sz, .slice az nz cz, .slice bz mz ez] 25)) 25 #[.int .i64 0, .int .i64 0, .string ⟨#[]⟩, .slice none 0 0, .slice none 0 0]
  have hB0 := (((Below.refl w.heap.size w).alloc (Nat.le_refl _) (.cells #[.int .i64 kx, .int .i64 ix, .string sx, .slice ax nx cx, .slice bx mx ex] 25)).alloc (by simp) (.cells #[.int .i64 kz, .int .i64 iz, .string sz, .slice az nz cz, .slice bz mz ez] 25)).alloc (by simp; omega) (.cells #[.int .i64 0, .int .i64 0, .string ⟨#[]⟩, .slice none 0 0, .slice none 0 0] 25)
  simp only [World.size_alloc] at hR0
  by_cases h5 : kx = 5
  · subst h5
    by_cases g4 : kz = 4
    · subst g4
      have cP : ∃ J : List UInt8, J.length ≤ 140737488351232 ∧ ∀ W, Below w.heap.size w W → Calls Try.prog 53 #[.slice ax nx cx, .string sz] W fun e w' => e = .returned (.string ⟨J.toArray⟩) ∧ Below W.heap.size W w' := by
        obtain ⟨k, i, s, l, ks⟩ := d
        obtain ⟨k2, i2, s2, l2, ks2⟩ := d2
        obtain ⟨a1, c1, b1, e1, he, hS, hL⟩ := hV.parts
        obtain ⟨a2, c2, b2, e2, he2, _, _⟩ := hV2.parts
        simp [VF.val, valV] at he he2
        obtain ⟨_, _, _, ⟨rfl, rfl, rfl⟩, _⟩ := he
        obtain ⟨_, _, rfl, _, _⟩ := he2
        obtain ⟨_, hsl, _, _, hs5⟩ := hs
        have hs5 : ∀ x ∈ l, SmallV n x := hs5
        have hN5 : ∀ x ∈ l, NumV n x := hN.2
        have hm : 1 + s.length + sumBy (fun k => k.length + 1) ks + sumBy (massV n) l ≤ 1048576 := hM
        have hl2 := head_len (check_parts hc2).1
        refine ⟨Lib.join (l.map (printV n)) s2, ?_, fun W h => prints_any anyB any_okF _ _ l s2 W (hL.on (Stays.of_below h fun b h1 => any_okF _ _ b h h1) (IsV.on (Stays.of_below h fun b h1 => any_okF _ _ b h h1) n)) (by omega) hN5 hs5 (by omega)⟩
        have h1 := join_len s2 (l.map (printV n))
        rw [sumBy_map] at h1
        have h2 := sumBy_addc (fun x => (printV n x).length) s2.length l
        have h3 : sumBy (fun x => (printV n x).length) l ≤ sumBy (fun x => 25 * massV n x) l := sumBy_le l fun x hx => by have := print_len n x (hN5 x hx); omega
        rw [sumBy_mul] at h3
        have h4 := sumBy_len (massV n) (massV_pos n) l
        have h5 : s2.length * l.length ≤ 4096 * 1048576 := Nat.mul_le_mul hl2 (by omega)
        omega
      obtain ⟨J, hJ, cP⟩ := cP
      have cP := hide cP
      have cT := hide (fun (W : World) (h : Below w.heap.size w W) => made_any pl J hJ W)
      obtain ⟨T, hT⟩ : ∃ T : ByteArray, (⟨J.toArray⟩ : ByteArray) = T := ⟨_, rfl⟩
      rw [hT] at cP cT
      clear hT hJ hV hV2 hs hs2 hc hc2 hN hM
      go_enter Try.func43, Try.ntmps43
      go_wp2_with fail
      have hsz : (((w.alloc (.cells #[.int .i64 5, .int .i64 ix, .string sx, .slice ax nx cx, .slice bx mx ex] 25)).alloc (.cells #[.int .i64 4, .int .i64 iz, .string sz, .slice az nz cz, .slice bz mz ez] 25)).alloc (.cells #[.int .i64 0, .int .i64 0, .string ⟨#[]⟩, .slice none 0 0, .slice none 0 0] 25)).heap.size = w.heap.size + 1 + 1 + 1 := by simp
      generalize ((w.alloc (.cells #[.int .i64 5, .int .i64 ix, .string sx, .slice ax nx cx, .slice bx mx ex] 25)).alloc (.cells #[.int .i64 4, .int .i64 iz, .string sz, .slice az nz cz, .slice bz mz ez] 25)).alloc (.cells #[.int .i64 0, .int .i64 0, .string ⟨#[]⟩, .slice none 0 0, .slice none 0 0] 25) = W0 at hR0 hB0 hsz ⊢
      have HSZ := hide hsz
      clear hsz
      refine (cP.out _ hB0).mono ?_
      rintro e w0 ⟨rfl, hb0⟩
      have hR0 := hR0.below hb0 hR0.lt
      have HSZ := hide (show w.heap.size + 1 + 1 + 1 ≤ w0.heap.size by have := HSZ.out; have := hb0.size; omega)
      have hB0 := hB0.trans (hb0.mono hB0.size)
      clear hb0 cP
      go_wp2_with fail
      refine (cT.out _ hB0).mono ?_
      rintro e w1 ⟨⟨kv, iv, sv, av, nv, cv, bv, mv, ev⟩, er, rfl, hgood, hb1⟩
      have hgood := hgood.less (N := w.heap.size + 1 + 1 + 1) (by have := HSZ.out; have := hB0.size; omega)
      have hR1 := hR0.below hb1 hR0.lt
      have hB1 := hB0.trans (hb1.mono hB0.size)
      clear hR0 hB0 hb1 cT
      have r0 := hR1.cell 0; have r1 := hR1.cell 1; have r2 := hR1.cell 2; have r3 := hR1.cell 3; have r4 := hR1.cell 4
      have g0 := hR1.frozen 0; have g1 := hR1.frozen 1; have g2 := hR1.frozen 2; have g3 := hR1.frozen 3; have g4 := hR1.frozen 4
      simp at r0 r1 r2 r3 r4
      have HGD := hide (GoodV.set5 (g := w.heap.size + 1 + 1) hgood (by omega) (.int .i64 kv) (.int .i64 iv) (.string sv) (.slice av nv cv) (.slice bv mv ev))
      go_wp2_with fail
      have hR5 := hR1.five5 (.int .i64 kv) (.int .i64 iv) (.string sv) (.slice av nv cv) (.slice bv mv ev)
      have hB5 := below_set5 hB1 (g := w.heap.size + 1 + 1) (by omega) (.int .i64 kv) (.int .i64 iv) (.string sv) (.slice av nv cv) (.slice bv mv ev)
      generalize (((((w1.setCell ⟨w.heap.size + 1 + 1, 0, none⟩ (.int .i64 kv)).setCell ⟨w.heap.size + 1 + 1, 1, none⟩ (.int .i64 iv)).setCell ⟨w.heap.size + 1 + 1, 2, none⟩ (.string sv)).setCell ⟨w.heap.size + 1 + 1, 3, none⟩ (.slice av nv cv)).setCell ⟨w.heap.size + 1 + 1, 4, none⟩ (.slice bv mv ev)) = W5 at hR5 hB5 HGD ⊢
      have q0 := hR5.cell 0; have q1 := hR5.cell 1; have q2 := hR5.cell 2; have q3 := hR5.cell 3; have q4 := hR5.cell 4
      simp at q0 q1 q2 q3 q4
      (try simp only [Exit.inBlock, Exit.then])
      refine bodyPost_ret (v := .tuple #[.agg #[.int .i64 kv, .int .i64 iv, .string sv, .slice av nv cv, .slice bv mv ev], .int .i64 er]) ?_ rfl ⟨⟨kv, iv, sv, av, nv, cv, bv, mv, ev⟩, er, rfl, HGD.out.less (by omega), hB5⟩
      simp [results, Try.results43, go_sem, q0, q1, q2, q3, q4]
    · have q4 : (kz != 4) = true := by rw [bne_iff_ne]; exact g4
      clear hV hV2
      go_enter Try.func43, Try.ntmps43
      go_wp2_with fail
      have q0 := hR0.cell 0; have q1 := hR0.cell 1; have q2 := hR0.cell 2; have q3 := hR0.cell 3; have q4 := hR0.cell 4
      simp at q0 q1 q2 q3 q4
      (try simp only [Exit.inBlock, Exit.then])
      refine bodyPost_ret (v := .tuple #[.agg #[.int .i64 0, .int .i64 0, .string ⟨#[]⟩, .slice none 0 0, .slice none 0 0], .int .i64 13]) ?_ rfl ⟨⟨0, 0, ⟨#[]⟩, none, 0, 0, none, 0, 0⟩, 13, rfl, goodZero _ _ _, hB0⟩
      simp [results, Try.results43, go_sem, q0, q1, q2, q3, q4]
  · have q5 : (kx != 5) = true := by rw [bne_iff_ne]; exact h5
    clear hV hV2
    go_enter Try.func43, Try.ntmps43
    go_wp2_with fail
    have q0 := hR0.cell 0; have q1 := hR0.cell 1; have q2 := hR0.cell 2; have q3 := hR0.cell 3; have q4 := hR0.cell 4
    simp at q0 q1 q2 q3 q4
    (try simp only [Exit.inBlock, Exit.then])
    refine bodyPost_ret (v := .tuple #[.agg #[.int .i64 0, .int .i64 0, .string ⟨#[]⟩, .slice none 0 0, .slice none 0 0], .int .i64 13]) ?_ rfl ⟨⟨0, 0, ⟨#[]⟩, none, 0, 0, none, 0, 0⟩, 13, rfl, goodZero _ _ _, hB0⟩
    simp [results, Try.results43, go_sem, q0, q1, q2, q3, q4]
end Go.Proofs.Ytdnmgpidfjkiaaa
