/-
  funcs: what is told may be: picked, index, letters; values.Truth, Len.
-/
import Derived.Test.YtdnmgpidfjkiaaaVFun3
import Derived.Test.YtdnmgpidfjkiaaaOct
namespace Go.Proofs.Ytdnmgpidfjkiaaa
open Go.RowKit
set_option linter.unusedVariables false
set_option linter.unusedSimpArgs false

theorem tellGood {n N : Nat} {pl : Bool} {w : World} {d : VN (VT n)} {v : Value} {r : Option (VT n)} (h : TellsV (freshB N) w n r v) (hr : ∀ x, r = some x → x ∈ d.l) (hs : SmallV (n + 1) d) (hc : checkV (n + 1) 0 d = 0) (hp : pl = true → plainV (n + 1) d = true) : GoodV N pl w v := by
  cases r with
  | none => obtain rfl : v = zeroV := h; exact goodZero N pl w
  | some x =>
    cases n with
    | zero => exact x.elim
    | succ n => exact goodPart hs hc hp (hr x rfl) h
theorem index_mem {n : Nat} {d : VN (VT n)} {q : Int} {x : VT n} (h : (indexR d q).1 = some x) : x ∈ d.l := by
  unfold indexR at h
  split at h
  · split at h
    · cases h
    · split at h
      · rename_i y hy; injection h with h; subst h; exact List.mem_of_getElem? hy
      · cases h
  · cases h
theorem field_mem {n : Nat} {d : VN (VT n)} {q : List UInt8} {x : VT n} (h : (fieldR d q).1 = some x) : x ∈ d.l := by
  unfold fieldR at h
  split at h
  · split at h
    · rename_i y hy
      injection h with h; subst h
      obtain ⟨j, _, hj⟩ := Option.bind_eq_some_iff.1 hy
      exact List.mem_of_getElem? hj
    · cases h
  · cases h
theorem tell_shape {U : World → Nat → Prop} {w : World} {n : Nat} {r : Option (VT n)} {v : Value} (h : TellsV U w n r v) : ∃ e : VF, v = e.val := by
  cases r with
  | none => exact ⟨⟨0, 0, ⟨#[]⟩, none, 0, 0, none, 0, 0⟩, h⟩
  | some x => exact IsV.shape h
set_option maxHeartbeats 20000000 in
set_option maxRecDepth 100000 in
theorem pickedG (n : Nat) (pl is : Bool) (x z : VF) (w : World) (hx : ArgV n pl w x.val) (hz : ArgV n pl w z.val) : Calls Try.prog 61 #[.bool is, x.val, z.val] w (FRes pl w) := by
  obtain ⟨kx, ix, sx, ax, nx, cx, bx, mx, ex⟩ := x
  obtain ⟨kz, iz, sz, az, nz, cz, bz, mz, ez⟩ := z
  have hR0 := Blk.new ((w.alloc (.cells #[.int .i64 kx, .int .i64 ix, .string sx, .slice ax nx cx, .slice bx mx ex] 25)).alloc (.cells #[.int .i64 kz, .int .i64 iz, .string sz, .slice az nz cz, .slice bz mz ez] 25)) 25 #[.int .i64 0, .int .i64 0, .string ⟨#[]⟩, .slice none 0 0, .slice none 0 0]
  have hB0 := (((Below.refl w.heap.size w).alloc (Nat.le_refl _) (.cells #[.int .i64 kx, .int .i64 ix, .string sx, .slice ax nx cx, .slice bx mx ex] 25)).alloc (by simp) (.cells #[.int .i64 kz, .int .i64 iz, .string sz, .slice az nz cz, .slice bz mz ez] 25)).alloc (by simp; omega) (.cells #[.int .i64 0, .int .i64 0, .string ⟨#[]⟩, .slice none 0 0, .slice none 0 0] 25)
  simp only [World.size_alloc] at hR0
  cases is
  · obtain ⟨d, hV, hs, hc, _, _, hp⟩ := hz
    clear hx
    have cC := hide (fun W (h : Below w.heap.size w W) => clone_any (n + 1) anyB any_okF _ d W (hV.anyF h) hs)
    clear hV
    go_enter Try.func61, Try.ntmps61
    go_wp2_with fail
    have hsz : (((w.alloc (.cells #[.int .i64 kx, .int .i64 ix, .string sx, .slice ax nx cx, .slice bx mx ex] 25)).alloc (.cells #[.int .i64 kz, .int .i64 iz, .string sz, .slice az nz cz, .slice bz mz ez] 25)).alloc (.cells #[.int .i64 0, .int .i64 0, .string ⟨#[]⟩, .slice none 0 0, .slice none 0 0] 25)).heap.size = w.heap.size + 1 + 1 + 1 := by simp
    generalize ((w.alloc (.cells #[.int .i64 kx, .int .i64 ix, .string sx, .slice ax nx cx, .slice bx mx ex] 25)).alloc (.cells #[.int .i64 kz, .int .i64 iz, .string sz, .slice az nz cz, .slice bz mz ez] 25)).alloc (.cells #[.int .i64 0, .int .i64 0, .string ⟨#[]⟩, .slice none 0 0, .slice none 0 0] 25) = W0 at hR0 hB0 hsz ⊢
    refine (cC.out _ hB0).mono ?_
    rintro e w1 ⟨v', rfl, hV', hb1⟩
    rw [hsz] at hV'
    have HSZ := hide hsz
    clear hsz
    obtain ⟨f, rfl⟩ := hV'.shape
    obtain ⟨kv, iv, sv, av, nv, cv, bv, mv, ev⟩ := f
    have hgood : GoodV (w.heap.size + 1 + 1 + 1) pl w1 (VF.val ⟨kv, iv, sv, av, nv, cv, bv, mv, ev⟩) := ⟨n, d, hV', hs, hc, hp⟩
    have hR1 := hR0.below hb1 hR0.lt
    have hB1 := hB0.trans (hb1.mono hB0.size)
    clear hR0 hB0 hb1 hV' cC
    have r0 := hR1.cell 0; have r1 := hR1.cell 1; have r2 := hR1.cell 2; have r3 := hR1.cell 3; have r4 := hR1.cell 4
    have g0 := hR1.frozen 0; have g1 := hR1.frozen 1; have g2 := hR1.frozen 2; have g3 := hR1.frozen 3; have g4 := hR1.frozen 4
    simp at r0 r1 r2 r3 r4
    have HGD := hide (GoodV.set5 (g := w.heap.size + 1 + 1) hgood (by omega) (.int .i64 kv) (.int .i64 iv) (.string sv) (.slice av nv cv) (.slice bv mv ev))
    go_wp2_with fail
    have hR5 := hR1.five5 (.int .i64 kv) (.int .i64 iv) (.string sv) (.slice av nv cv) (.slice bv mv ev)
    have hB5 := below_set5 hB1 (g := w.heap.size + 1 + 1) (by omega) (.int .i64 kv) (.int .i64 iv) (.string sv) (.slice av nv cv) (.slice bv mv ev)
    generalize (((((w1.setCell ⟨w.heap.size + 1 + 1, 0, none⟩ (.int .i64 kv)).setCell ⟨w.heap.size + 1 + 1, 1, none⟩ (.int .i64 iv)).setCell ⟨w.heap.size + 1 + 1, 2, none⟩ (.string sv)).setCell ⟨w.heap.size + 1 + 1, 3, none⟩ (.slice av nv cv)).setCell ⟨w.heap.size + 1 + 1, 4, none⟩ (.slice bv mv ev)) = W5 at hR5 hB5 HGD ⊢
    have q0 := hR5.cell 0; have q1 := hR5.cell 1; have q2 := hR5.cell 2; have q3 := hR5.cell 3; have q4 := hR5.cell 4
    simp at q0 q1 q2 q3 q4
    (try simp only [Exit.inBlock, Exit.then])
    refine bodyPost_ret (v := .tuple #[.agg #[.int .i64 kv, .int .i64 iv, .string sv, .slice av nv cv, .slice bv mv ev], .int .i64 0]) ?_ rfl ⟨⟨kv, iv, sv, av, nv, cv, bv, mv, ev⟩, 0, rfl, HGD.out.less (by omega), hB5⟩
    simp [results, Try.results61, go_sem, q0, q1, q2, q3, q4]
  · obtain ⟨d, hV, hs, hc, _, _, hp⟩ := hx
    clear hz
    have cC := hide (fun W (h : Below w.heap.size w W) => clone_any (n + 1) anyB any_okF _ d W (hV.anyF h) hs)
    clear hV
    go_enter Try.func61, Try.ntmps61
    go_wp2_with fail
    have hsz : (((w.alloc (.cells #[.int .i64 kx, .int .i64 ix, .string sx, .slice ax nx cx, .slice bx mx ex] 25)).alloc (.cells #[.int .i64 kz, .int .i64 iz, .string sz, .slice az nz cz, .slice bz mz ez] 25)).alloc (.cells #[.int .i64 0, .int .i64 0, .string ⟨#[]⟩, .slice none 0 0, .slice none 0 0] 25)).heap.size = w.heap.size + 1 + 1 + 1 := by simp
    generalize ((w.alloc (.cells #[.int .i64 kx, .int .i64 ix, .string sx, .slice ax nx cx, .slice bx mx ex] 25)).alloc (.cells #[.int .i64 kz, .int .i64 iz, .string sz, .slice az nz cz, .slice bz mz ez] 25)).alloc (.cells #[.int .i64 0, .int .i64 0, .string ⟨#[]⟩, .slice none 0 0, .slice none 0 0] 25) = W0 at hR0 hB0 hsz ⊢
    refine (cC.out _ hB0).mono ?_
    rintro e w1 ⟨v', rfl, hV', hb1⟩
    rw [hsz] at hV'
    have HSZ := hide hsz
    clear hsz
    obtain ⟨f, rfl⟩ := hV'.shape
    obtain ⟨kv, iv, sv, av, nv, cv, bv, mv, ev⟩ := f
    have hgood : GoodV (w.heap.size + 1 + 1 + 1) pl w1 (VF.val ⟨kv, iv, sv, av, nv, cv, bv, mv, ev⟩) := ⟨n, d, hV', hs, hc, hp⟩
    have hR1 := hR0.below hb1 hR0.lt
    have hB1 := hB0.trans (hb1.mono hB0.size)
    clear hR0 hB0 hb1 hV' cC
    have r0 := hR1.cell 0; have r1 := hR1.cell 1; have r2 := hR1.cell 2; have r3 := hR1.cell 3; have r4 := hR1.cell 4
    have g0 := hR1.frozen 0; have g1 := hR1.frozen 1; have g2 := hR1.frozen 2; have g3 := hR1.frozen 3; have g4 := hR1.frozen 4
    simp at r0 r1 r2 r3 r4
    have HGD := hide (GoodV.set5 (g := w.heap.size + 1 + 1) hgood (by omega) (.int .i64 kv) (.int .i64 iv) (.string sv) (.slice av nv cv) (.slice bv mv ev))
    go_wp2_with fail
    have hR5 := hR1.five5 (.int .i64 kv) (.int .i64 iv) (.string sv) (.slice av nv cv) (.slice bv mv ev)
    have hB5 := below_set5 hB1 (g := w.heap.size + 1 + 1) (by omega) (.int .i64 kv) (.int .i64 iv) (.string sv) (.slice av nv cv) (.slice bv mv ev)
    generalize (((((w1.setCell ⟨w.heap.size + 1 + 1, 0, none⟩ (.int .i64 kv)).setCell ⟨w.heap.size + 1 + 1, 1, none⟩ (.int .i64 iv)).setCell ⟨w.heap.size + 1 + 1, 2, none⟩ (.string sv)).setCell ⟨w.heap.size + 1 + 1, 3, none⟩ (.slice av nv cv)).setCell ⟨w.heap.size + 1 + 1, 4, none⟩ (.slice bv mv ev)) = W5 at hR5 hB5 HGD ⊢
    have q0 := hR5.cell 0; have q1 := hR5.cell 1; have q2 := hR5.cell 2; have q3 := hR5.cell 3; have q4 := hR5.cell 4
    simp at q0 q1 q2 q3 q4
    (try simp only [Exit.inBlock, Exit.then])
    refine bodyPost_ret (v := .tuple #[.agg #[.int .i64 kv, .int .i64 iv, .string sv, .slice av nv cv, .slice bv mv ev], .int .i64 0]) ?_ rfl ⟨⟨kv, iv, sv, av, nv, cv, bv, mv, ev⟩, 0, rfl, HGD.out.less (by omega), hB5⟩
    simp [results, Try.results61, go_sem, q0, q1, q2, q3, q4]
set_option maxHeartbeats 20000000 in
set_option maxRecDepth 100000 in
theorem indexG (n : Nat) (pl : Bool) (x z : VF) (w : World) (hx : ArgV n pl w x.val) (hz : ArgV n pl w z.val) : Calls Try.prog 62 #[x.val, z.val] w (FRes pl w) := by
  obtain ⟨d, hV, hs, hc, _, _, hp⟩ := hx
  obtain ⟨d2, hV2, _, _, hN2, _, _⟩ := hz
  obtain ⟨kx, ix, sx, ax, nx, cx, bx, mx, ex⟩ := x
  obtain ⟨kz, iz, sz, az, nz, cz, bz, mz, ez⟩ := z
  have hR0 := Blk.new ((w.alloc (.cells #[.int .i64 kx, .int .i64 ix, .string sx, .slice ax nx cx, .slice bx mx ex] 25)).alloc (.cells #[.int .i64 kz, .int .i64 iz, .string sz, .slice az nz cz, .slice bz mz ez] 25)) 25 #[.int .i64 0, .int .i64 0, .string ⟨#[]⟩, .slice none 0 0, .slice none 0 0]
  have hB0 := (((Below.refl w.heap.size w).alloc (Nat.le_refl _) (.cells #[.int .i64 kx, .int .i64 ix, .string sx, .slice ax nx cx, .slice bx mx ex] 25)).alloc (by simp) (.cells #[.int .i64 kz, .int .i64 iz, .string sz, .slice az nz cz, .slice bz mz ez] 25)).alloc (by simp; omega) (.cells #[.int .i64 0, .int .i64 0, .string ⟨#[]⟩, .slice none 0 0, .slice none 0 0] 25)
  simp only [World.size_alloc] at hR0
  by_cases h5 : kx = 5
  · subst h5
    by_cases g3 : kz = 3
    · subst g3
      have hiz : -9223372036854775808 ≤ iz ∧ iz ≤ 9223372036854775807 := by
        obtain ⟨k2, i2, s2, l2, t2⟩ := d2
        obtain ⟨_, _, _, _, he, _⟩ := hV2.parts
        have hi2 : iz = i2 := by simp [VF.val, valV] at he; exact he.2.1
        rw [hi2]; exact hN2.1
      clear hV2 hN2
      have cC := hide (fun W (h : Below w.heap.size w W) => index_any n anyB any_okF _ d iz hiz.1 hiz.2 W (hV.anyF h) hs)
      clear hV
      obtain ⟨er, her⟩ : ∃ er, (indexR d iz).2 = er := ⟨_, rfl⟩
      rw [her] at cC
      clear her
      go_enter Try.func62, Try.ntmps62
      go_wp2_with fail
      have hsz : (((w.alloc (.cells #[.int .i64 5, .int .i64 ix, .string sx, .slice ax nx cx, .slice bx mx ex] 25)).alloc (.cells #[.int .i64 3, .int .i64 iz, .string sz, .slice az nz cz, .slice bz mz ez] 25)).alloc (.cells #[.int .i64 0, .int .i64 0, .string ⟨#[]⟩, .slice none 0 0, .slice none 0 0] 25)).heap.size = w.heap.size + 1 + 1 + 1 := by simp
      generalize ((w.alloc (.cells #[.int .i64 5, .int .i64 ix, .string sx, .slice ax nx cx, .slice bx mx ex] 25)).alloc (.cells #[.int .i64 3, .int .i64 iz, .string sz, .slice az nz cz, .slice bz mz ez] 25)).alloc (.cells #[.int .i64 0, .int .i64 0, .string ⟨#[]⟩, .slice none 0 0, .slice none 0 0] 25) = W0 at hR0 hB0 hsz ⊢
      refine (cC.out _ hB0).mono ?_
      rintro e w1 ⟨v', rfl, hV', hb1⟩
      rw [hsz] at hV'
      have HSZ := hide hsz
      clear hsz
      obtain ⟨f, rfl⟩ := tell_shape hV'
      obtain ⟨kv, iv, sv, av, nv, cv, bv, mv, ev⟩ := f
      have hgood : GoodV (w.heap.size + 1 + 1 + 1) pl w1 (VF.val ⟨kv, iv, sv, av, nv, cv, bv, mv, ev⟩) := tellGood hV' (fun x h => index_mem h) hs hc hp
      have hR1 := hR0.below hb1 hR0.lt
      have hB1 := hB0.trans (hb1.mono hB0.size)
      clear hR0 hB0 hb1 hV' cC
      have r0 := hR1.cell 0; have r1 := hR1.cell 1; have r2 := hR1.cell 2; have r3 := hR1.cell 3; have r4 := hR1.cell 4
      have g0 := hR1.frozen 0; have g1 := hR1.frozen 1; have g2 := hR1.frozen 2; have g3 := hR1.frozen 3; have g4 := hR1.frozen 4
      simp at r0 r1 r2 r3 r4
      have HGD := hide (GoodV.set5 (g := w.heap.size + 1 + 1) hgood (by omega) (.int .i64 kv) (.int .i64 iv) (.string sv) (.slice av nv cv) (.slice bv mv ev))
      go_wp2_with fail
      have hR5 := hR1.five5 (.int .i64 kv) (.int .i64 iv) (.string sv) (.slice av nv cv) (.slice bv mv ev)
      have hB5 := below_set5 hB1 (g := w.heap.size + 1 + 1) (by omega) (.int .i64 kv) (.int .i64 iv) (.string sv) (.slice av nv cv) (.slice bv mv ev)
      generalize (((((w1.setCell ⟨w.heap.size + 1 + 1, 0, none⟩ (.int .i64 kv)).setCell ⟨w.heap.size + 1 + 1, 1, none⟩ (.int .i64 iv)).setCell ⟨w.heap.size + 1 + 1, 2, none⟩ (.string sv)).setCell ⟨w.heap.size + 1 + 1, 3, none⟩ (.slice av nv cv)).setCell ⟨w.heap.size + 1 + 1, 4, none⟩ (.slice bv mv ev)) = W5 at hR5 hB5 HGD ⊢
      have q0 := hR5.cell 0; have q1 := hR5.cell 1; have q2 := hR5.cell 2; have q3 := hR5.cell 3; have q4 := hR5.cell 4
      simp at q0 q1 q2 q3 q4
      (try simp only [Exit.inBlock, Exit.then])
      refine bodyPost_ret (v := .tuple #[.agg #[.int .i64 kv, .int .i64 iv, .string sv, .slice av nv cv, .slice bv mv ev], .int .i64 er]) ?_ rfl ⟨⟨kv, iv, sv, av, nv, cv, bv, mv, ev⟩, er, rfl, HGD.out.less (by omega), hB5⟩
      simp [results, Try.results62, go_sem, q0, q1, q2, q3, q4]
    · have q3 : (kz == 3) = false := by rw [beq_eq_false_iff_ne]; exact g3
      clear hV hV2
      go_enter Try.func62, Try.ntmps62
      go_wp2_with fail
      have q0 := hR0.cell 0; have q1 := hR0.cell 1; have q2 := hR0.cell 2; have q3 := hR0.cell 3; have q4 := hR0.cell 4
      simp at q0 q1 q2 q3 q4
      (try simp only [Exit.inBlock, Exit.then])
      refine bodyPost_ret (v := .tuple #[.agg #[.int .i64 0, .int .i64 0, .string ⟨#[]⟩, .slice none 0 0, .slice none 0 0], .int .i64 13]) ?_ rfl ⟨⟨0, 0, ⟨#[]⟩, none, 0, 0, none, 0, 0⟩, 13, rfl, goodZero _ _ _, hB0⟩
      simp [results, Try.results62, go_sem, q0, q1, q2, q3, q4]
  by_cases h6 : kx = 6
  · subst h6
    by_cases g4 : kz = 4
    · subst g4
      have hsz4 : ∃ t : List UInt8, sz = ⟨t.toArray⟩ := ⟨sz.data.toList, by cases sz; simp⟩
      obtain ⟨t, ht⟩ := hsz4
      have cF : ∀ W, Below w.heap.size w W → Calls Try.prog 15 #[valV 6 ix sx ax nx cx bx mx ex, .string sz] W fun e w' => ∃ v', e = .returned (.tuple #[v', .int .i64 (fieldR d t).2]) ∧ TellsV (freshB W.heap.size) w' n (fieldR d t).1 v' ∧ Below W.heap.size W w' :=
        fun W h => by rw [ht]; exact field_any n anyB any_okF _ d t W (hV.anyF h) hs
      clear hV2 ht
      have cC := hide (fun W (h : Below w.heap.size w W) => cF W h)
      clear hV cF
      obtain ⟨er, her⟩ : ∃ er, (fieldR d t).2 = er := ⟨_, rfl⟩
      rw [her] at cC
      clear her
      go_enter Try.func62, Try.ntmps62
      go_wp2_with fail
      have hsz : (((w.alloc (.cells #[.int .i64 6, .int .i64 ix, .string sx, .slice ax nx cx, .slice bx mx ex] 25)).alloc (.cells #[.int .i64 4, .int .i64 iz, .string sz, .slice az nz cz, .slice bz mz ez] 25)).alloc (.cells #[.int .i64 0, .int .i64 0, .string ⟨#[]⟩, .slice none 0 0, .slice none 0 0] 25)).heap.size = w.heap.size + 1 + 1 + 1 := by simp
      generalize ((w.alloc (.cells #[.int .i64 6, .int .i64 ix, .string sx, .slice ax nx cx, .slice bx mx ex] 25)).alloc (.cells #[.int .i64 4, .int .i64 iz, .string sz, .slice az nz cz, .slice bz mz ez] 25)).alloc (.cells #[.int .i64 0, .int .i64 0, .string ⟨#[]⟩, .slice none 0 0, .slice none 0 0] 25) = W0 at hR0 hB0 hsz ⊢
      refine (cC.out _ hB0).mono ?_
      rintro e w1 ⟨v', rfl, hV', hb1⟩
      rw [hsz] at hV'
      have HSZ := hide hsz
      clear hsz
      obtain ⟨f, rfl⟩ := tell_shape hV'
      obtain ⟨kv, iv, sv, av, nv, cv, bv, mv, ev⟩ := f
      have hgood : GoodV (w.heap.size + 1 + 1 + 1) pl w1 (VF.val ⟨kv, iv, sv, av, nv, cv, bv, mv, ev⟩) := tellGood hV' (fun x h => field_mem h) hs hc hp
      have hR1 := hR0.below hb1 hR0.lt
      have hB1 := hB0.trans (hb1.mono hB0.size)
      clear hR0 hB0 hb1 hV' cC
      have r0 := hR1.cell 0; have r1 := hR1.cell 1; have r2 := hR1.cell 2; have r3 := hR1.cell 3; have r4 := hR1.cell 4
      have g0 := hR1.frozen 0; have g1 := hR1.frozen 1; have g2 := hR1.frozen 2; have g3 := hR1.frozen 3; have g4 := hR1.frozen 4
      simp at r0 r1 r2 r3 r4
      have HGD := hide (GoodV.set5 (g := w.heap.size + 1 + 1) hgood (by omega) (.int .i64 kv) (.int .i64 iv) (.string sv) (.slice av nv cv) (.slice bv mv ev))
      go_wp2_with fail
      have hR5 := hR1.five5 (.int .i64 kv) (.int .i64 iv) (.string sv) (.slice av nv cv) (.slice bv mv ev)
      have hB5 := below_set5 hB1 (g := w.heap.size + 1 + 1) (by omega) (.int .i64 kv) (.int .i64 iv) (.string sv) (.slice av nv cv) (.slice bv mv ev)
      generalize (((((w1.setCell ⟨w.heap.size + 1 + 1, 0, none⟩ (.int .i64 kv)).setCell ⟨w.heap.size + 1 + 1, 1, none⟩ (.int .i64 iv)).setCell ⟨w.heap.size + 1 + 1, 2, none⟩ (.string sv)).setCell ⟨w.heap.size + 1 + 1, 3, none⟩ (.slice av nv cv)).setCell ⟨w.heap.size + 1 + 1, 4, none⟩ (.slice bv mv ev)) = W5 at hR5 hB5 HGD ⊢
      have q0 := hR5.cell 0; have q1 := hR5.cell 1; have q2 := hR5.cell 2; have q3 := hR5.cell 3; have q4 := hR5.cell 4
      simp at q0 q1 q2 q3 q4
      (try simp only [Exit.inBlock, Exit.then])
      refine bodyPost_ret (v := .tuple #[.agg #[.int .i64 kv, .int .i64 iv, .string sv, .slice av nv cv, .slice bv mv ev], .int .i64 er]) ?_ rfl ⟨⟨kv, iv, sv, av, nv, cv, bv, mv, ev⟩, er, rfl, HGD.out.less (by omega), hB5⟩
      simp [results, Try.results62, go_sem, q0, q1, q2, q3, q4]
    · have q4 : (kz == 4) = false := by rw [beq_eq_false_iff_ne]; exact g4
      clear hV hV2
      go_enter Try.func62, Try.ntmps62
      go_wp2_with fail
      have q0 := hR0.cell 0; have q1 := hR0.cell 1; have q2 := hR0.cell 2; have q3 := hR0.cell 3; have q4 := hR0.cell 4
      simp at q0 q1 q2 q3 q4
      (try simp only [Exit.inBlock, Exit.then])
      refine bodyPost_ret (v := .tuple #[.agg #[.int .i64 0, .int .i64 0, .string ⟨#[]⟩, .slice none 0 0, .slice none 0 0], .int .i64 13]) ?_ rfl ⟨⟨0, 0, ⟨#[]⟩, none, 0, 0, none, 0, 0⟩, 13, rfl, goodZero _ _ _, hB0⟩
      simp [results, Try.results62, go_sem, q0, q1, q2, q3, q4]
  · have q5 : (kx == 5) = false := by rw [beq_eq_false_iff_ne]; exact h5
    have q6 : (kx == 6) = false := by rw [beq_eq_false_iff_ne]; exact h6
    clear hV hV2
    go_enter Try.func62, Try.ntmps62
    go_wp2_with fail
    have q0 := hR0.cell 0; have q1 := hR0.cell 1; have q2 := hR0.cell 2; have q3 := hR0.cell 3; have q4 := hR0.cell 4
    simp at q0 q1 q2 q3 q4
    (try simp only [Exit.inBlock, Exit.then])
    refine bodyPost_ret (v := .tuple #[.agg #[.int .i64 0, .int .i64 0, .string ⟨#[]⟩, .slice none 0 0, .slice none 0 0], .int .i64 13]) ?_ rfl ⟨⟨0, 0, ⟨#[]⟩, none, 0, 0, none, 0, 0⟩, 13, rfl, goodZero _ _ _, hB0⟩
    simp [results, Try.results62, go_sem, q0, q1, q2, q3, q4]
end Go.Proofs.Ytdnmgpidfjkiaaa
