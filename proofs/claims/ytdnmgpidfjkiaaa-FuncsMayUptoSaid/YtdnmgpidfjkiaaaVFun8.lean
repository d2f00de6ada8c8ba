/-
  funcs: what is told may be: two at and, or, default.
-/
import Derived.Test.YtdnmgpidfjkiaaaVFun6
namespace Go.Proofs.Ytdnmgpidfjkiaaa
open Go.RowKit
set_option linter.unusedVariables false
set_option linter.unusedSimpArgs false

set_option maxHeartbeats 20000000 in
set_option maxRecDepth 100000 in
theorem twoAnd (n : Nat) (pl : Bool) (x z : VF) (w : World) (hx : ArgV n pl w x.val) (hz : ArgV n pl w z.val) : Calls Try.prog 43 #[.string ⟨#[97, 110, 100]⟩, x.val, z.val] w (FRes pl w) := by
  have cU := hide (fun w => valTruth_is x w)
  have cP := hide (fun is W (h : Below w.heap.size w W) => pickedG n pl is x z W (hx.step h) (hz.step h))
  obtain ⟨b, hb⟩ : ∃ b, truthVF x = b := ⟨_, rfl⟩
  rw [hb] at cU
  clear hb
  clear hx hz
  obtain ⟨kx, ix, sx, ax, nx, cx, bx, mx, ex⟩ := x
  obtain ⟨kz, iz, sz, az, nz, cz, bz, mz, ez⟩ := z
  have hR0 := Blk.new ((w.alloc (.cells #[.int .i64 kx, .int .i64 ix, .string sx, .slice ax nx cx, .slice bx mx ex] 25)).alloc (.cells #[.int .i64 kz, .int .i64 iz, .string sz, .slice az nz cz, .slice bz mz ez] 25)) 25 #[.int .i64 0, .int .i64 0, .string ⟨#[]⟩, .slice none 0 0, .slice none 0 0]
  have hB0 := (((Below.refl w.heap.size w).alloc (Nat.le_refl _) (.cells #[.int .i64 kx, .int .i64 ix, .string sx, .slice ax nx cx, .slice bx mx ex] 25)).alloc (by simp) (.cells #[.int .i64 kz, .int .i64 iz, .string sz, .slice az nz cz, .slice bz mz ez] 25)).alloc (by simp; omega) (.cells #[.int .i64 0, .int .i64 0, .string ⟨#[]⟩, .slice none 0 0, .slice none 0 0] 25)
  simp only [World.size_alloc] at hR0
  have KX := ((Blk.new w 25 #[.int .i64 kx, .int .i64 ix, .string sx, .slice ax nx cx, .slice bx mx ex]).alloc (.cells #[.int .i64 kz, .int .i64 iz, .string sz, .slice az nz cz, .slice bz mz ez] 25)).alloc (.cells #[.int .i64 0, .int .i64 0, .string ⟨#[]⟩, .slice none 0 0, .slice none 0 0] 25)
  have KZ := (Blk.new (w.alloc (.cells #[.int .i64 kx, .int .i64 ix, .string sx, .slice ax nx cx, .slice bx mx ex] 25)) 25 #[.int .i64 kz, .int .i64 iz, .string sz, .slice az nz cz, .slice bz mz ez]).alloc (.cells #[.int .i64 0, .int .i64 0, .string ⟨#[]⟩, .slice none 0 0, .slice none 0 0] 25)
  simp only [World.size_alloc] at KZ
  go_enter Try.func43, Try.ntmps43
  go_wp2_with fail
  have hsz : (((w.alloc (.cells #[.int .i64 kx, .int .i64 ix, .string sx, .slice ax nx cx, .slice bx mx ex] 25)).alloc (.cells #[.int .i64 kz, .int .i64 iz, .string sz, .slice az nz cz, .slice bz mz ez] 25)).alloc (.cells #[.int .i64 0, .int .i64 0, .string ⟨#[]⟩, .slice none 0 0, .slice none 0 0] 25)).heap.size = w.heap.size + 1 + 1 + 1 := by simp
  generalize ((w.alloc (.cells #[.int .i64 kx, .int .i64 ix, .string sx, .slice ax nx cx, .slice bx mx ex] 25)).alloc (.cells #[.int .i64 kz, .int .i64 iz, .string sz, .slice az nz cz, .slice bz mz ez] 25)).alloc (.cells #[.int .i64 0, .int .i64 0, .string ⟨#[]⟩, .slice none 0 0, .slice none 0 0] 25) = W0 at hR0 hB0 hsz KX KZ ⊢
  have x0 := KX.cell 0; have x1 := KX.cell 1; have x2 := KX.cell 2; have x3 := KX.cell 3; have x4 := KX.cell 4
  have z0 := KZ.cell 0; have z1 := KZ.cell 1; have z2 := KZ.cell 2; have z3 := KZ.cell 3; have z4 := KZ.cell 4
  simp at x0 x1 x2 x3 x4 z0 z1 z2 z3 z4
  have xl := KX.lt; have zl := KZ.lt
  have HSZ := hide hsz
  clear hsz
  have cT := hide (cP.out (!b))
  clear cP
  go_region_with (first
    | (go_at_call 33; refine (cU.out _).mono ?_; rintro e w0 ⟨rfl, hb0⟩; have hb0 := (Below.refl W0.heap.size W0).drew.trans hb0; have KX0 := KX.below hb0 KX.lt; have KZ0 := KZ.below hb0 KZ.lt; have y0 := KX0.cell 0; have y1 := KX0.cell 1; have y2 := KX0.cell 2; have y3 := KX0.cell 3; have y4 := KX0.cell 4; have t0 := KZ0.cell 0; have t1 := KZ0.cell 1; have t2 := KZ0.cell 2; have t3 := KZ0.cell 3; have t4 := KZ0.cell 4; simp at y0 y1 y2 y3 y4 t0 t1 t2 t3 t4; have yl := KX0.lt; have tl := KZ0.lt)
    | (go_at_call 61; refine (cT.out _ (hB0.trans (hb0.mono hB0.size))).mono ?_; rintro e w1 ⟨⟨kv, iv, sv, av, nv, cv, bv, mv, ev⟩, er, rfl, hgood, hb1⟩; have hR1 := (hR0.below hb0 hR0.lt).below hb1 (hR0.below hb0 hR0.lt).lt; have r0 := hR1.cell 0; have r1 := hR1.cell 1; have r2 := hR1.cell 2; have r3 := hR1.cell 3; have r4 := hR1.cell 4; have g0 := hR1.frozen 0; have g1 := hR1.frozen 1; have g2 := hR1.frozen 2; have g3 := hR1.frozen 3; have g4 := hR1.frozen 4; simp at r0 r1 r2 r3 r4))
  all_goals
    have hgood := hgood.less (N := w.heap.size + 1 + 1 + 1) (by have := HSZ.out; have := hb0.size; omega)
    have hBa := hB0.trans (hb0.mono hB0.size)
    have hB1 := hBa.trans (hb1.mono hBa.size)
    have HGD := hide (GoodV.set5 (g := w.heap.size + 1 + 1) hgood (by omega) (.int .i64 kv) (.int .i64 iv) (.string sv) (.slice av nv cv) (.slice bv mv ev))
    have hR5 := hR1.five5 (.int .i64 kv) (.int .i64 iv) (.string sv) (.slice av nv cv) (.slice bv mv ev)
    have hB5 := below_set5 hB1 (g := w.heap.size + 1 + 1) (by omega) (.int .i64 kv) (.int .i64 iv) (.string sv) (.slice av nv cv) (.slice bv mv ev)
    generalize (((((w1.setCell ⟨w.heap.size + 1 + 1, 0, none⟩ (.int .i64 kv)).setCell ⟨w.heap.size + 1 + 1, 1, none⟩ (.int .i64 iv)).setCell ⟨w.heap.size + 1 + 1, 2, none⟩ (.string sv)).setCell ⟨w.heap.size + 1 + 1, 3, none⟩ (.slice av nv cv)).setCell ⟨w.heap.size + 1 + 1, 4, none⟩ (.slice bv mv ev)) = W5 at hR5 hB5 HGD ⊢
    have q0 := hR5.cell 0; have q1 := hR5.cell 1; have q2 := hR5.cell 2; have q3 := hR5.cell 3; have q4 := hR5.cell 4
    simp at q0 q1 q2 q3 q4
    go_wp2_with fail
    (try simp only [Exit.inBlock, Exit.then])
    refine bodyPost_ret (v := .tuple #[.agg #[.int .i64 kv, .int .i64 iv, .string sv, .slice av nv cv, .slice bv mv ev], .int .i64 er]) ?_ rfl ⟨⟨kv, iv, sv, av, nv, cv, bv, mv, ev⟩, er, rfl, HGD.out.less (by omega), hB5⟩
    simp [results, Try.results43, go_sem, q0, q1, q2, q3, q4]
end Go.Proofs.Ytdnmgpidfjkiaaa
