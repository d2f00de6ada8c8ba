/-
  funcs: what is told may be: Call.
-/
import Derived.Test.YtdnmgpidfjkiaaaVFun6
import Derived.Test.YtdnmgpidfjkiaaaOrder2
import Derived.Deep.RegionWith
namespace Go.Proofs.Ytdnmgpidfjkiaaa
open Go.RowKit
set_option linter.unusedVariables false
set_option linter.unusedSimpArgs false

/-- What is handed in, as a list. -/
structure ArgsV (n : Nat) (pl : Bool) (w : World) (a : Option Addr) (l : List (VT (n + 1))) : Prop where
  lies : ValsAt anyB w (IsV anyB w (n + 1)) a l
  each : ∀ x ∈ l, SmallV (n + 1) x ∧ checkV (n + 1) 0 x = 0 ∧ NumV (n + 1) x ∧ (pl = true → plainV (n + 1) x = true)
  mass : sumBy (massV (n + 1)) l ≤ 1048576
theorem ArgsV.at {n : Nat} {pl : Bool} {w : World} {a : Option Addr} {l : List (VT (n + 1))} (h : ArgsV n pl w a l) {j : Nat} {x : VT (n + 1)} (hx : l[j]? = some x) :
    ∃ b off k i s a1 n1 c1 a2 n2 c2, a = some ⟨b, off, none⟩ ∧ b < w.heap.size ∧ Five w b (off + j * 5) k i s a1 n1 c1 a2 n2 c2 ∧ ArgV n pl w (VF.val ⟨k, i, s, a1, n1, c1, a2, n2, c2⟩) := by
  obtain ⟨b, off, ha, hb, _, k, i, s, a1, n1, c1, a2, n2, c2, h5, hv⟩ := h.lies j x hx
  have hm := List.mem_of_getElem? hx
  obtain ⟨q1, q2, q3, q4⟩ := h.each x hm
  exact ⟨b, off, k, i, s, a1, n1, c1, a2, n2, c2, ha, hb, h5, x, hv, q1, q2, q3, Nat.le_trans (sumBy_mem (massV (n + 1)) l x hm) h.mass, q4⟩
theorem ArgsV.step {n : Nat} {pl : Bool} {w w' : World} {a : Option Addr} {l : List (VT (n + 1))} (h : ArgsV n pl w a l) (hb : Below w.heap.size w w') : ArgsV n pl w' a l :=
  ⟨h.lies.on (R' := IsV anyB w' (n + 1)) (Stays.of_below hb fun b h1 => any_okF _ _ b hb h1) (fun v x hv => hv.anyF hb), h.each, h.mass⟩
set_option maxHeartbeats 20000000 in
set_option maxRecDepth 100000 in
theorem callErr (pl : Bool) (X : ByteArray) (hA : ∀ w, Calls Try.prog 39 #[.string X] w fun e w' => e = .returned (.tuple #[.int .i64 0, .int .i64 0, .bool false]) ∧ w = w') (a : Option Addr) (m c : Nat) (w : World) : Calls Try.prog 24 #[.string X, .slice a m c] w (FRes pl w) := by
  have HA := hide hA
  clear hA
  have hR0 := Blk.new w 25 #[.int .i64 0, .int .i64 0, .string ⟨#[]⟩, .slice none 0 0, .slice none 0 0]
  have hB0 := (Below.refl w.heap.size w).alloc (Nat.le_refl _) (.cells #[.int .i64 0, .int .i64 0, .string ⟨#[]⟩, .slice none 0 0, .slice none 0 0] 25)
  go_enter Try.func24, Try.ntmps24
  go_wp2_with (go_at_call 39; refine (HA.out _).mono ?_; rintro e wa ⟨rfl, rfl⟩)
  have q0 := hR0.cell 0; have q1 := hR0.cell 1; have q2 := hR0.cell 2; have q3 := hR0.cell 3; have q4 := hR0.cell 4
  simp at q0 q1 q2 q3 q4
  (try simp only [Exit.inBlock, Exit.then])
  refine bodyPost_ret (v := .tuple #[.agg #[.int .i64 0, .int .i64 0, .string ⟨#[]⟩, .slice none 0 0, .slice none 0 0], .int .i64 31]) ?_ rfl ⟨⟨0, 0, ⟨#[]⟩, none, 0, 0, none, 0, 0⟩, _, rfl, goodZero _ _ _, hB0⟩
  simp [results, Try.results24, go_sem, q0, q1, q2, q3, q4]
set_option maxHeartbeats 20000000 in
set_option maxRecDepth 100000 in
theorem callOne (n : Nat) (pl : Bool) (X : ByteArray) (hA : ∀ w, Calls Try.prog 39 #[.string X] w fun e w' => e = .returned (.tuple #[.int .i64 1, .int .i64 1, .bool true]) ∧ w = w') (hp : (X.toList == [112, 114, 105, 110, 116]) = false)
    (hone : ∀ (x : VF) W, ArgV n pl W x.val → Calls Try.prog 42 #[.string X, x.val] W (FRes pl W)) (a : Option Addr) (c : Nat) (l : List (VT (n + 1))) (w : World) (hl : ArgsV n pl w a l) : Calls Try.prog 24 #[.string X, .slice a l.length c] w (FRes pl w) := by
  have HA := hide hA; have HO := hide hone
  clear hA hone
  have hR0 := Blk.new w 25 #[.int .i64 0, .int .i64 0, .string ⟨#[]⟩, .slice none 0 0, .slice none 0 0]
  have hB0 := (Below.refl w.heap.size w).alloc (Nat.le_refl _) (.cells #[.int .i64 0, .int .i64 0, .string ⟨#[]⟩, .slice none 0 0, .slice none 0 0] 25)
  by_cases h0 : l.length = 0
  · rw [h0]
    go_enter Try.func24, Try.ntmps24
    go_wp2_with (go_at_call 39; refine (HA.out _).mono ?_; rintro e wa ⟨rfl, rfl⟩)
    have q0 := hR0.cell 0; have q1 := hR0.cell 1; have q2 := hR0.cell 2; have q3 := hR0.cell 3; have q4 := hR0.cell 4
    simp at q0 q1 q2 q3 q4
    (try simp only [Exit.inBlock, Exit.then])
    refine bodyPost_ret (v := .tuple #[.agg #[.int .i64 0, .int .i64 0, .string ⟨#[]⟩, .slice none 0 0, .slice none 0 0], .int .i64 3]) ?_ rfl ⟨⟨0, 0, ⟨#[]⟩, none, 0, 0, none, 0, 0⟩, _, rfl, goodZero _ _ _, hB0⟩
    simp [results, Try.results24, go_sem, q0, q1, q2, q3, q4]
  by_cases h1 : 1 < l.length
  · have hq : decide ((1 : Int) < (l.length : Int)) = true := decide_eq_true (by omega)
    have hq2 : decide ((l.length : Int) < 1) = false := decide_eq_false (by omega)
    have hq3 : decide (l.length = 0) = false := decide_eq_false (by omega)
    go_enter Try.func24, Try.ntmps24
    go_wp2_with (go_at_call 39; refine (HA.out _).mono ?_; rintro e wa ⟨rfl, rfl⟩)
    have q0 := hR0.cell 0; have q1 := hR0.cell 1; have q2 := hR0.cell 2; have q3 := hR0.cell 3; have q4 := hR0.cell 4
    simp at q0 q1 q2 q3 q4
    (try simp only [Exit.inBlock, Exit.then])
    refine bodyPost_ret (v := .tuple #[.agg #[.int .i64 0, .int .i64 0, .string ⟨#[]⟩, .slice none 0 0, .slice none 0 0], .int .i64 3]) ?_ rfl ⟨⟨0, 0, ⟨#[]⟩, none, 0, 0, none, 0, 0⟩, _, rfl, goodZero _ _ _, hB0⟩
    simp [results, Try.results24, go_sem, q0, q1, q2, q3, q4]
  have hl1 : l.length = 1 := by omega
  obtain ⟨x, hx⟩ : ∃ x, l[0]? = some x := ⟨_, List.getElem?_eq_getElem (by omega)⟩
  obtain ⟨b, off, kx, ix, sx, ax, nx, cx, bx, mx, ex, rfl, hb, hF, hV⟩ := hl.at hx
  rw [hl1]
  simp only [Nat.zero_mul, Nat.add_zero] at hF
  obtain ⟨f0, f1, f2, f3, f4⟩ := hF.on (hB0.block b hb)
  have hbl : b < (w.alloc (.cells #[.int .i64 0, .int .i64 0, .string ⟨#[]⟩, .slice none 0 0, .slice none 0 0] 25)).heap.size := Nat.lt_of_lt_of_le hb hB0.size
  have cT := hide (HO.out ⟨kx, ix, sx, ax, nx, cx, bx, mx, ex⟩ _ (hV.step hB0))
  have HSZ := hide (show (w.alloc (.cells #[.int .i64 0, .int .i64 0, .string ⟨#[]⟩, .slice none 0 0, .slice none 0 0] 25)).heap.size = w.heap.size + 1 by simp)
  clear hl hx hV hF hl1 h0 h1
  obtain ⟨d0, d1, d2, d3, d4⟩ := Five.on (w := w) (w' := w) (b := b) (o := off) ⟨by exact (hB0.cell (p := ⟨b, off, none⟩) hb).symm.trans f0, (hB0.cell (p := ⟨b, off + 1, none⟩) hb).symm.trans f1, (hB0.cell (p := ⟨b, off + 2, none⟩) hb).symm.trans f2, (hB0.cell (p := ⟨b, off + 3, none⟩) hb).symm.trans f3, (hB0.cell (p := ⟨b, off + 4, none⟩) hb).symm.trans f4⟩ rfl
  go_enter Try.func24, Try.ntmps24
  go_wp2_with (go_at_call 39; refine (HA.out _).mono ?_; rintro e wa ⟨rfl, rfl⟩)
  refine (cT.out).mono ?_
  rintro e w1 ⟨⟨kv, iv, sv, av, nv, cv, bv, mv, ev⟩, er, rfl, hgood, hb1⟩
  have hgood := hgood.less (N := w.heap.size + 1) (by have := HSZ.out; omega)
  have hR1 := hR0.below hb1 hR0.lt
  have hB1 := hB0.trans (hb1.mono hB0.size)
  clear hR0 hB0 hb1
  have r0 := hR1.cell 0; have r1 := hR1.cell 1; have r2 := hR1.cell 2; have r3 := hR1.cell 3; have r4 := hR1.cell 4
  have g0 := hR1.frozen 0; have g1 := hR1.frozen 1; have g2 := hR1.frozen 2; have g3 := hR1.frozen 3; have g4 := hR1.frozen 4
  simp at r0 r1 r2 r3 r4
  have HGD := hide (GoodV.set5 (g := w.heap.size) hgood (by omega) (.int .i64 kv) (.int .i64 iv) (.string sv) (.slice av nv cv) (.slice bv mv ev))
  go_wp2_with fail
  have hR5 := hR1.five5 (.int .i64 kv) (.int .i64 iv) (.string sv) (.slice av nv cv) (.slice bv mv ev)
  have hB5 := below_set5 hB1 (g := w.heap.size) (by omega) (.int .i64 kv) (.int .i64 iv) (.string sv) (.slice av nv cv) (.slice bv mv ev)
  generalize (((((w1.setCell ⟨w.heap.size, 0, none⟩ (.int .i64 kv)).setCell ⟨w.heap.size, 1, none⟩ (.int .i64 iv)).setCell ⟨w.heap.size, 2, none⟩ (.string sv)).setCell ⟨w.heap.size, 3, none⟩ (.slice av nv cv)).setCell ⟨w.heap.size, 4, none⟩ (.slice bv mv ev)) = W5 at hR5 hB5 HGD ⊢
  have q0 := hR5.cell 0; have q1 := hR5.cell 1; have q2 := hR5.cell 2; have q3 := hR5.cell 3; have q4 := hR5.cell 4
  simp at q0 q1 q2 q3 q4
  (try simp only [Exit.inBlock, Exit.then])
  refine bodyPost_ret (v := .tuple #[.agg #[.int .i64 kv, .int .i64 iv, .string sv, .slice av nv cv, .slice bv mv ev], .int .i64 er]) ?_ rfl ⟨⟨kv, iv, sv, av, nv, cv, bv, mv, ev⟩, er, rfl, HGD.out.less (by omega), hB5⟩
  simp [results, Try.results24, go_sem, q0, q1, q2, q3, q4]
set_option maxHeartbeats 20000000 in
set_option maxRecDepth 100000 in
theorem callTwo (n : Nat) (pl : Bool) (X : ByteArray) (hA : ∀ w, Calls Try.prog 39 #[.string X] w fun e w' => e = .returned (.tuple #[.int .i64 2, .int .i64 2, .bool true]) ∧ w = w') (hp : (X.toList == [112, 114, 105, 110, 116]) = false)
    (hone : ∀ (x z : VF) W, ArgV n pl W x.val → ArgV n pl W z.val → Calls Try.prog 43 #[.string X, x.val, z.val] W (FRes pl W)) (a : Option Addr) (c : Nat) (l : List (VT (n + 1))) (w : World) (hl : ArgsV n pl w a l) (hlen : l.length ≤ 1048576) : Calls Try.prog 24 #[.string X, .slice a l.length c] w (FRes pl w) := by
  have HA := hide hA; have HO := hide hone
  clear hA hone
  have hR0 := Blk.new w 25 #[.int .i64 0, .int .i64 0, .string ⟨#[]⟩, .slice none 0 0, .slice none 0 0]
  have hB0 := (Below.refl w.heap.size w).alloc (Nat.le_refl _) (.cells #[.int .i64 0, .int .i64 0, .string ⟨#[]⟩, .slice none 0 0, .slice none 0 0] 25)
  by_cases h0 : l.length < 2
  · have hq : decide ((l.length : Int) < 2) = true := decide_eq_true (by omega)
    have hq2 : decide (l.length < 2) = true := decide_eq_true (by omega)
    go_enter Try.func24, Try.ntmps24
    go_wp2_with (go_at_call 39; refine (HA.out _).mono ?_; rintro e wa ⟨rfl, rfl⟩)
    have q0 := hR0.cell 0; have q1 := hR0.cell 1; have q2 := hR0.cell 2; have q3 := hR0.cell 3; have q4 := hR0.cell 4
    simp at q0 q1 q2 q3 q4
    (try simp only [Exit.inBlock, Exit.then])
    refine bodyPost_ret (v := .tuple #[.agg #[.int .i64 0, .int .i64 0, .string ⟨#[]⟩, .slice none 0 0, .slice none 0 0], .int .i64 3]) ?_ rfl ⟨⟨0, 0, ⟨#[]⟩, none, 0, 0, none, 0, 0⟩, _, rfl, goodZero _ _ _, hB0⟩
    simp [results, Try.results24, go_sem, q0, q1, q2, q3, q4]
  by_cases h1 : 2 < l.length
  · have hq : decide ((2 : Int) < (l.length : Int)) = true := decide_eq_true (by omega)
    have hq2 : decide ((l.length : Int) < 2) = false := decide_eq_false (by omega)
    have hq3 : decide (l.length < 2) = false := decide_eq_false (by omega)
    go_enter Try.func24, Try.ntmps24
    go_wp2_with (go_at_call 39; refine (HA.out _).mono ?_; rintro e wa ⟨rfl, rfl⟩)
    have q0 := hR0.cell 0; have q1 := hR0.cell 1; have q2 := hR0.cell 2; have q3 := hR0.cell 3; have q4 := hR0.cell 4
    simp at q0 q1 q2 q3 q4
    (try simp only [Exit.inBlock, Exit.then])
    refine bodyPost_ret (v := .tuple #[.agg #[.int .i64 0, .int .i64 0, .string ⟨#[]⟩, .slice none 0 0, .slice none 0 0], .int .i64 3]) ?_ rfl ⟨⟨0, 0, ⟨#[]⟩, none, 0, 0, none, 0, 0⟩, _, rfl, goodZero _ _ _, hB0⟩
    simp [results, Try.results24, go_sem, q0, q1, q2, q3, q4]
  have hl1 : l.length = 2 := by omega
  obtain ⟨x, hx⟩ : ∃ x, l[0]? = some x := ⟨_, List.getElem?_eq_getElem (by omega)⟩
  obtain ⟨z, hz⟩ : ∃ z, l[1]? = some z := ⟨_, List.getElem?_eq_getElem (by omega)⟩
  obtain ⟨b, off, kx, ix, sx, ax, nx, cx, bx, mx, ex, rfl, hb, hF, hV⟩ := hl.at hx
  obtain ⟨b2, off2, kz, iz, sz, az, nz, cz, bz, mz, ez, he, hb2, hF2, hV2⟩ := hl.at hz
  injection he with he
  injection he with he1 he2 _
  subst he1; subst he2
  rw [hl1]
  simp only [Nat.zero_mul, Nat.one_mul, Nat.add_zero] at hF hF2
  obtain ⟨f0, f1, f2, f3, f4⟩ := hF.on (hB0.block b hb)
  obtain ⟨u0, u1, u2, u3, u4⟩ := hF2.on (hB0.block b hb)
  have hbl : b < (w.alloc (.cells #[.int .i64 0, .int .i64 0, .string ⟨#[]⟩, .slice none 0 0, .slice none 0 0] 25)).heap.size := Nat.lt_of_lt_of_le hb hB0.size
  have cT := hide (HO.out ⟨kx, ix, sx, ax, nx, cx, bx, mx, ex⟩ ⟨kz, iz, sz, az, nz, cz, bz, mz, ez⟩ (w.alloc (.cells #[.int .i64 0, .int .i64 0, .string ⟨#[]⟩, .slice none 0 0, .slice none 0 0] 25)).drew (hV.step hB0.drew) (hV2.step hB0.drew))
  have HSZ := hide (show (w.alloc (.cells #[.int .i64 0, .int .i64 0, .string ⟨#[]⟩, .slice none 0 0, .slice none 0 0] 25)).drew.heap.size = w.heap.size + 1 by simp [World.drew])
  clear hl hx hz hV hV2 hF hF2 hl1 h0 h1 HO
  go_enter Try.func24, Try.ntmps24
  go_wp2_with (go_at_call 39; refine (HA.out _).mono ?_; rintro e wa ⟨rfl, rfl⟩)
  generalize w.alloc (.cells #[.int .i64 0, .int .i64 0, .string ⟨#[]⟩, .slice none 0 0, .slice none 0 0] 25) = W0 at hR0 hB0 f0 f1 f2 f3 f4 u0 u1 u2 u3 u4 hbl cT HSZ ⊢
  go_region_with (go_at_call 43; refine (cT.out).mono ?_; rintro e w1 ⟨⟨kv, iv, sv, av, nv, cv, bv, mv, ev⟩, er, rfl, hgood, hb1⟩; have hR1 := hR0.drew.below hb1 hR0.drew.lt; have r0 := hR1.cell 0; have r1 := hR1.cell 1; have r2 := hR1.cell 2; have r3 := hR1.cell 3; have r4 := hR1.cell 4; have g0 := hR1.frozen 0; have g1 := hR1.frozen 1; have g2 := hR1.frozen 2; have g3 := hR1.frozen 3; have g4 := hR1.frozen 4; simp at r0 r1 r2 r3 r4)
  all_goals
    have hgood := hgood.less (N := w.heap.size + 1) (by have := HSZ.out; omega)
    have hBa := hB0.drew
    have hB1 := hBa.trans (hb1.mono hBa.size)
    have HGD := hide (GoodV.set5 (g := w.heap.size) hgood (by omega) (.int .i64 kv) (.int .i64 iv) (.string sv) (.slice av nv cv) (.slice bv mv ev))
    have hR5 := hR1.five5 (.int .i64 kv) (.int .i64 iv) (.string sv) (.slice av nv cv) (.slice bv mv ev)
    have hB5 := below_set5 hB1 (g := w.heap.size) (by omega) (.int .i64 kv) (.int .i64 iv) (.string sv) (.slice av nv cv) (.slice bv mv ev)
    generalize (((((w1.setCell ⟨w.heap.size, 0, none⟩ (.int .i64 kv)).setCell ⟨w.heap.size, 1, none⟩ (.int .i64 iv)).setCell ⟨w.heap.size, 2, none⟩ (.string sv)).setCell ⟨w.heap.size, 3, none⟩ (.slice av nv cv)).setCell ⟨w.heap.size, 4, none⟩ (.slice bv mv ev)) = W5 at hR5 hB5 HGD ⊢
    have q0 := hR5.cell 0; have q1 := hR5.cell 1; have q2 := hR5.cell 2; have q3 := hR5.cell 3; have q4 := hR5.cell 4
    simp at q0 q1 q2 q3 q4
    go_wp2_with fail
    (try simp only [Exit.inBlock, Exit.then])
    refine bodyPost_ret (v := .tuple #[.agg #[.int .i64 kv, .int .i64 iv, .string sv, .slice av nv cv, .slice bv mv ev], .int .i64 er]) ?_ rfl ⟨⟨kv, iv, sv, av, nv, cv, bv, mv, ev⟩, er, rfl, HGD.out.less (by omega), hB5⟩
    simp [results, Try.results24, go_sem, q0, q1, q2, q3, q4]
end Go.Proofs.Ytdnmgpidfjkiaaa
