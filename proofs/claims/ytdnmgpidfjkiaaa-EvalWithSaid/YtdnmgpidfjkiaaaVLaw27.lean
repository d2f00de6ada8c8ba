/-
  eval.Arg: the dot's field; muslinlaw27.alive.
-/
import Derived.Test.YtdnmgpidfjkiaaaVArgN
import Derived.Test.YtdnmgpidfjkiaaaVField
namespace Go.Proofs.Ytdnmgpidfjkiaaa
open Go.RowKit
set_option linter.unusedVariables false
set_option linter.unusedSimpArgs false

set_option maxRecDepth 100000 in
set_option maxHeartbeats 8000000 in
theorem arg1_any (n : Nat) (U : World → Nat → Prop) (r d : VF) (x : VN (VT n)) (y : VT n) (name : List UInt8) (a : Option Addr) (nv c b off pc : Nat) (s0 : ByteArray) (i0 : Int) (t0 : ByteArray) (w : World)
    (hd : IsV U w (n + 1) d.val x) (hsm : SmallV (n + 1) x) (hf : fieldR x name = (some y, 0)) (hy : SmallV n y) (hb : b < w.heap.size) (hp : w.cell? ⟨b, off, none⟩ = some (.string ⟨name.toArray⟩)) :
    Calls Try.prog 9 #[.agg (envV r d a nv c), argV 1 s0 (some ⟨b, off, none⟩) 1 pc i0 t0] w fun e w' => ∃ v : VF, e = .returned (.tuple #[v.val, .int .i64 0]) ∧ IsV (freshB w.heap.size) w' n v.val y ∧ Below w.heap.size w w' := by
  obtain ⟨kr, ir, sr, ar, nr, cr, br, mr, er⟩ := r
  obtain ⟨kd, id, sd, ad, nd, cd, bd, md, ed⟩ := d
  have hBW : Below w.heap.size w ((((w.alloc (.cells (envV ⟨kr, ir, sr, ar, nr, cr, br, mr, er⟩ ⟨kd, id, sd, ad, nd, cd, bd, md, ed⟩ a nv c) 32)).alloc (.cells #[.int .i64 1, .string s0, .slice (some ⟨b, off, none⟩) 1 pc, .int .i64 i0, .string t0] 39)).alloc (.cells #[.int .i64 0, .int .i64 0, .string ⟨#[]⟩, .slice none 0 0, .slice none 0 0] 25)).alloc (.cells #[.int .i64 kd, .int .i64 id, .string sd, .slice ad nd cd, .slice bd md ed] 25)) := (((((Below.refl w.heap.size w).alloc (Nat.le_refl _) _).alloc (by simp) _).alloc (by simp; omega) _).alloc (by simp; omega) _)
  have k2 : Blk ((((w.alloc (.cells (envV ⟨kr, ir, sr, ar, nr, cr, br, mr, er⟩ ⟨kd, id, sd, ad, nd, cd, bd, md, ed⟩ a nv c) 32)).alloc (.cells #[.int .i64 1, .string s0, .slice (some ⟨b, off, none⟩) 1 pc, .int .i64 i0, .string t0] 39)).alloc (.cells #[.int .i64 0, .int .i64 0, .string ⟨#[]⟩, .slice none 0 0, .slice none 0 0] 25)).alloc (.cells #[.int .i64 kd, .int .i64 id, .string sd, .slice ad nd cd, .slice bd md ed] 25)) (w.heap.size + 1 + 1) 25 #[.int .i64 0, .int .i64 0, .string ⟨#[]⟩, .slice none 0 0, .slice none 0 0] := by
    have := (Blk.new ((w.alloc (.cells (envV ⟨kr, ir, sr, ar, nr, cr, br, mr, er⟩ ⟨kd, id, sd, ad, nd, cd, bd, md, ed⟩ a nv c) 32)).alloc (.cells #[.int .i64 1, .string s0, .slice (some ⟨b, off, none⟩) 1 pc, .int .i64 i0, .string t0] 39)) 25 #[.int .i64 0, .int .i64 0, .string ⟨#[]⟩, .slice none 0 0, .slice none 0 0]).alloc (.cells #[.int .i64 kd, .int .i64 id, .string sd, .slice ad nd cd, .slice bd md ed] 25)
    simpa using this
  have k3 : Blk ((((w.alloc (.cells (envV ⟨kr, ir, sr, ar, nr, cr, br, mr, er⟩ ⟨kd, id, sd, ad, nd, cd, bd, md, ed⟩ a nv c) 32)).alloc (.cells #[.int .i64 1, .string s0, .slice (some ⟨b, off, none⟩) 1 pc, .int .i64 i0, .string t0] 39)).alloc (.cells #[.int .i64 0, .int .i64 0, .string ⟨#[]⟩, .slice none 0 0, .slice none 0 0] 25)).alloc (.cells #[.int .i64 kd, .int .i64 id, .string sd, .slice ad nd cd, .slice bd md ed] 25)) (w.heap.size + 1 + 1 + 1) 25 #[.int .i64 kd, .int .i64 id, .string sd, .slice ad nd cd, .slice bd md ed] := by
    have := (Blk.new (((w.alloc (.cells (envV ⟨kr, ir, sr, ar, nr, cr, br, mr, er⟩ ⟨kd, id, sd, ad, nd, cd, bd, md, ed⟩ a nv c) 32)).alloc (.cells #[.int .i64 1, .string s0, .slice (some ⟨b, off, none⟩) 1 pc, .int .i64 i0, .string t0] 39)).alloc (.cells #[.int .i64 0, .int .i64 0, .string ⟨#[]⟩, .slice none 0 0, .slice none 0 0] 25)) 25 #[.int .i64 kd, .int .i64 id, .string sd, .slice ad nd cd, .slice bd md ed])
    simpa using this
  have hz4 : ((((w.alloc (.cells (envV ⟨kr, ir, sr, ar, nr, cr, br, mr, er⟩ ⟨kd, id, sd, ad, nd, cd, bd, md, ed⟩ a nv c) 32)).alloc (.cells #[.int .i64 1, .string s0, .slice (some ⟨b, off, none⟩) 1 pc, .int .i64 i0, .string t0] 39)).alloc (.cells #[.int .i64 0, .int .i64 0, .string ⟨#[]⟩, .slice none 0 0, .slice none 0 0] 25)).alloc (.cells #[.int .i64 kd, .int .i64 id, .string sd, .slice ad nd cd, .slice bd md ed] 25)).heap.size = w.heap.size + 4 := by simp
  have hpW := (hBW.cell (p := ⟨b, off, none⟩) hb).trans hp
  have cF := hide (field_any n (fun _ b => U w b ∧ b < w.heap.size) (fun _ _ _ _ _ h => h) (VF.val ⟨kd, id, sd, ad, nd, cd, bd, md, ed⟩) x name ((((w.alloc (.cells (envV ⟨kr, ir, sr, ar, nr, cr, br, mr, er⟩ ⟨kd, id, sd, ad, nd, cd, bd, md, ed⟩ a nv c) 32)).alloc (.cells #[.int .i64 1, .string s0, .slice (some ⟨b, off, none⟩) 1 pc, .int .i64 i0, .string t0] 39)).alloc (.cells #[.int .i64 0, .int .i64 0, .string ⟨#[]⟩, .slice none 0 0, .slice none 0 0] 25)).alloc (.cells #[.int .i64 kd, .int .i64 id, .string sd, .slice ad nd cd, .slice bd md ed] 25)) (IsV.on (U := U) ⟨hBW.size, fun b h1 h2 => ⟨hBW.block b h1, h2, h1⟩⟩ _ _ _ hd) hsm)
  rw [hf] at cF
  obtain ⟨nmb, hnm⟩ : ∃ nmb : ByteArray, (⟨name.toArray⟩ : ByteArray) = nmb := ⟨_, rfl⟩
  rw [hnm] at cF hpW
  obtain ⟨W, hW⟩ : ∃ W, ((((w.alloc (.cells (envV ⟨kr, ir, sr, ar, nr, cr, br, mr, er⟩ ⟨kd, id, sd, ad, nd, cd, bd, md, ed⟩ a nv c) 32)).alloc (.cells #[.int .i64 1, .string s0, .slice (some ⟨b, off, none⟩) 1 pc, .int .i64 i0, .string t0] 39)).alloc (.cells #[.int .i64 0, .int .i64 0, .string ⟨#[]⟩, .slice none 0 0, .slice none 0 0] 25)).alloc (.cells #[.int .i64 kd, .int .i64 id, .string sd, .slice ad nd cd, .slice bd md ed] 25)) = W := ⟨_, rfl⟩
  have HW := hide hW
  rw [hW] at cF hBW k2 k3 hpW hz4
  have HK2 := hide k2; have HK3 := hide k3; have HBW := hide hBW
  have q0 := k3.cell 0; have q1 := k3.cell 1; have q2 := k3.cell 2; have q3 := k3.cell 3; have q4 := k3.cell 4
  simp at q0 q1 q2 q3 q4
  clear hd hsm hf hp k2 k3 hBW hnm hW
  go_enter Try.func9, Try.ntmps9
  go_wp2_with fail
  rw [HW.out]
  go_loopw [7, 48] (fun kv7 iv8 wr => kv7 = .int .i64 0 ∧ ((iv8 = .int .i64 0 ∧ wr = W) ∨ (iv8 = .int .i64 1 ∧ ∃ v : VF, Hid (Below w.heap.size w wr ∧ Blk wr (w.heap.size + 1 + 1 + 1) 25 #[.int .i64 v.k, .int .i64 v.i, .string v.s, .slice v.a v.n v.c, .slice v.a2 v.n2 v.c2] ∧ Blk wr (w.heap.size + 1 + 1) 25 #[.int .i64 0, .int .i64 0, .string ⟨#[]⟩, .slice none 0 0, .slice none 0 0] ∧ IsV (freshB (w.heap.size + 4)) wr n v.val y)))) (fun _ iv8 _ => 1 - (intOf iv8).toNat)
  case atStart => exact ⟨rfl, .inl ⟨rfl, rfl⟩⟩
  case round =>
    obtain ⟨rfl, ⟨rfl, rfl⟩ | ⟨rfl, v, HH⟩⟩ := hrel
    · go_wp2_with (go_at_call 15; refine (cF.out).mono ?_; rintro e w1 ⟨v1, rfl, hv1, hb1⟩; have hv1 : IsV _ w1 n v1 y := hv1; obtain ⟨⟨kv, iv, sv, av, nv1, cv, bv, mv, dv⟩, rfl⟩ := hv1.shape; have k31 := HK3.out.below hb1 HK3.out.lt; have k21 := HK2.out.below hb1 HK2.out.lt; have o0 := k31.cell 0; have o1 := k31.cell 1; have o2 := k31.cell 2; have o3 := k31.cell 3; have o4 := k31.cell 4; have y0 := k31.frozen 0; have y1 := k31.frozen 1; have y2 := k31.frozen 2; have y3 := k31.frozen 3; have y4 := k31.frozen 4; have HV := hide hv1; have HB1 := hide hb1; have HK31 := hide k31; have HK21 := hide k21; clear hv1 hb1 k31 k21; simp at o0 o1 o2 o3 o4)
      have hB2 := set5_below (HBW.out.trans (HB1.out.mono HBW.out.size)) (b := w.heap.size + 1 + 1 + 1) (by omega) (.int .i64 kv) (.int .i64 iv) (.string sv) (.slice av nv1 cv) (.slice bv mv dv)
      have k32 := set5_blk HK31.out (.int .i64 kv) (.int .i64 iv) (.string sv) (.slice av nv1 cv) (.slice bv mv dv)
      have k22 : Blk (set5 w1 (w.heap.size + 1 + 1 + 1) (.int .i64 kv) (.int .i64 iv) (.string sv) (.slice av nv1 cv) (.slice bv mv dv)) (w.heap.size + 1 + 1) 25 #[.int .i64 0, .int .i64 0, .string ⟨#[]⟩, .slice none 0 0, .slice none 0 0] := (set5_heap _ _ _ _ _ _ _ _ (by omega)).trans HK21.out
      have hst : Stays (freshB wr.heap.size) (freshB (w.heap.size + 4)) w1 (set5 w1 (w.heap.size + 1 + 1 + 1) (.int .i64 kv) (.int .i64 iv) (.string sv) (.slice av nv1 cv) (.slice bv mv dv)) := ⟨by simp [set5], fun b _ ⟨h1, cs, t, h2⟩ => by
        have e := set5_heap w1 (w.heap.size + 1 + 1 + 1) (.int .i64 kv) (.int .i64 iv) (.string sv) (.slice av nv1 cv) (.slice bv mv dv) b (by omega)
        exact ⟨e, by omega, cs, t, e.trans h2⟩⟩
      have hV2 := IsV.on hst n _ _ HV.out
      have HG := hide (And.intro hB2 (And.intro k32 (And.intro k22 hV2)))
      clear hB2 k32 k22 hst hV2
      go_roundw
      case rel => exact ⟨rfl, .inr ⟨by go_num, ⟨kv, iv, sv, av, nv1, cv, bv, mv, dv⟩, HG.out⟩⟩
      case measure => simp [intOf]
    · obtain ⟨hB2, k32, k22, hV2⟩ := HH.out
      obtain ⟨kv, iv, sv, av, nv1, cv, bv, mv, dv⟩ := v
      simp only at k32
      have p0 := k32.cell 0; have p1 := k32.cell 1; have p2 := k32.cell 2; have p3 := k32.cell 3; have p4 := k32.cell 4
      simp at p0 p1 p2 p3 p4
      have cC := hide (clone_any n (freshB (w.heap.size + 4)) (fun w1 w2 b hb hlt ⟨h1, cs, t, h2⟩ => ⟨h1, cs, t, (hb.block b hlt).trans h2⟩) _ y wr hV2 hy)
      have HK22 := hide k22; have HB2 := hide hB2
      clear HH hB2 k32 k22 hV2
      go_wp2_with (go_at_call 14; refine (cC.out).mono ?_; rintro e w3 ⟨v3, rfl, hV3, hb3⟩; obtain ⟨⟨k3, i3, s3, a3, n3, c3, b3, m3, d3⟩, rfl⟩ := hV3.shape; have k23 := HK22.out.below hb3 HK22.out.lt; have o0 := k23.cell 0; have o1 := k23.cell 1; have o2 := k23.cell 2; have o3 := k23.cell 3; have o4 := k23.cell 4; have y0 := k23.frozen 0; have y1 := k23.frozen 1; have y2 := k23.frozen 2; have y3 := k23.frozen 3; have y4 := k23.frozen 4; simp at o0 o1 o2 o3 o4; have HV3 := hide hV3; have HB3 := hide hb3; have HK23 := hide k23; clear hV3 hb3 k23)
      have hz2 := HB2.out.size; have hz3 := HB3.out.size; have hl2 := HK22.out.lt
      have hB5 := set5_below (HB2.out.trans (HB3.out.mono HB2.out.size)) (b := w.heap.size + 1 + 1) (by omega) (.int .i64 k3) (.int .i64 i3) (.string s3) (.slice a3 n3 c3) (.slice b3 m3 d3)
      have k5 := set5_blk HK23.out (.int .i64 k3) (.int .i64 i3) (.string s3) (.slice a3 n3 c3) (.slice b3 m3 d3)
      have hst : Stays (freshB wr.heap.size) (freshB w.heap.size) w3 (set5 w3 (w.heap.size + 1 + 1) (.int .i64 k3) (.int .i64 i3) (.string s3) (.slice a3 n3 c3) (.slice b3 m3 d3)) := ⟨by simp [set5], fun b _ ⟨h1, cs, t, h2⟩ => by
        have e := set5_heap w3 (w.heap.size + 1 + 1) (.int .i64 k3) (.int .i64 i3) (.string s3) (.slice a3 n3 c3) (.slice b3 m3 d3) b (by omega)
        exact ⟨e, by omega, cs, t, e.trans h2⟩⟩
      have hV5 := IsV.on hst n _ _ HV3.out
      unfold set5 at hB5 k5 hV5
      clear hst o0 o1 o2 o3 o4 y0 y1 y2 y3 y4
      generalize (((((w3.setCell ⟨w.heap.size + 1 + 1, 0, none⟩ (.int .i64 k3)).setCell ⟨w.heap.size + 1 + 1, 1, none⟩ (.int .i64 i3)).setCell ⟨w.heap.size + 1 + 1, 2, none⟩ (.string s3)).setCell ⟨w.heap.size + 1 + 1, 3, none⟩ (.slice a3 n3 c3)).setCell ⟨w.heap.size + 1 + 1, 4, none⟩ (.slice b3 m3 d3)) = w5 at hB5 k5 hV5 ⊢
      have HB5 := hide hB5; have HV5 := hide hV5
      have t0 := k5.cell 0; have t1 := k5.cell 1; have t2 := k5.cell 2; have t3 := k5.cell 3; have t4 := k5.cell 4
      simp at t0 t1 t2 t3 t4
      clear hB5 k5 hV5
      simp [bodyPost, results, Try.results9, go_sem, t0, t1, t2, t3, t4]
      exact ⟨⟨k3, i3, s3, a3, n3, c3, b3, m3, d3⟩, by simp, HV5.out, HB5.out⟩
theorem refInt27_any (n : Int) (w : World) : Calls Try.prog 26 #[.int .i64 n] w fun e w' => e = .returned (.agg #[.int .i64 3, .int .i64 n, .string ⟨#[]⟩, .slice none 0 0, .slice none 0 0]) ∧ Below w.heap.size w w' := by
  go_enter Try.func26, Try.ntmps26
  go_wp2_with fail
  (try simp only [Exit.inBlock, Exit.then])
  exact bodyPost_ret (v := .agg #[.int .i64 3, .int .i64 n, .string ⟨#[]⟩, .slice none 0 0, .slice none 0 0]) (results_cell_row rfl _ _ w.heap.size 25 _ (0, 0) _ rfl (heap_alloc_new w _) Try.underlying25 rfl (by kernel_rfl)) rfl ⟨rfl, (Below.refl _ _).alloc (Nat.le_refl _) _⟩
theorem num27_any (n : Int) (w : World) : Calls Try.prog 10 #[.int .i64 n] w fun e w' => e = .returned (.int .i64 n) ∧ w' = w := by
  go_enter Try.func10, Try.ntmps10
  go_wp2
  go_ret
  exact ⟨rfl, rfl⟩
def oneV : VT 1 := (⟨3, 1, [], [], []⟩ : VN (VT 0))
def recV : VN (VT 1) := ⟨6, 0, [], [oneV], [[97]]⟩
theorem recV_at (w : World) (b m : Nat) (h1 : Blk w b 9 #[.string ⟨#[97]⟩]) (h2 : Blk w m 25 #[.int .i64 3, .int .i64 1, .string ⟨#[]⟩, .slice none 0 0, .slice none 0 0]) :
    IsV (fun _ _ => True) w 2 (VF.val ⟨6, 0, ⟨#[]⟩, some ⟨m, 0, none⟩, 1, 1, some ⟨b, 0, none⟩, 1, 1⟩) recV := by
  refine IsV.made (n := 1) (d := recV) (a := some ⟨m, 0, none⟩) (a2 := some ⟨b, 0, none⟩) (c := 1) (c2 := 1) ?_ ?_
  · intro j x hx
    cases j with
    | zero =>
      obtain rfl : [97] = x := by simpa [recV] using hx
      exact ⟨b, 0, rfl, h1.lt, trivial, by have := h1.cell 0; simpa using this⟩
    | succ j => simp [recV] at hx
  · intro j x hx
    cases j with
    | zero =>
      obtain rfl : oneV = x := by simpa [recV] using hx
      have c0 := h2.cell 0; have c1 := h2.cell 1; have c2 := h2.cell 2; have c3 := h2.cell 3; have c4 := h2.cell 4
      simp at c0 c1 c2 c3 c4
      refine ⟨m, 0, rfl, h2.lt, trivial, 3, 1, ⟨#[]⟩, none, 0, 0, none, 0, 0, ⟨c0, c1, c2, c3, c4⟩, ?_⟩
      exact IsV.made (n := 0) (d := (⟨3, 1, [], [], []⟩ : VN (VT 0))) (a := none) (a2 := none) (c := 0) (c2 := 0) (fun j x hx => by simp at hx) (fun j x hx => by simp at hx)
    | succ j => simp [recV] at hx
theorem smallRec : SmallV 2 recV := ⟨by decide, by decide, by decide, by decide, fun x hx => by
  obtain rfl : x = oneV := by simpa [recV] using hx
  exact ⟨by decide, by decide, by decide, by decide, fun y hy => by cases hy⟩⟩
set_option maxRecDepth 100000 in
set_option maxHeartbeats 4000000 in
theorem alive27_any (w : World) : Calls Try.prog 6 #[] w fun e w' => e = .returned (.bool true) ∧ Below w.heap.size w w' := by
  go_enter Try.func6, Try.ntmps6
  go_wp2_with (go_at_call 26; refine (refInt27_any 1 _).mono ?_; rintro e w1 ⟨rfl, hb1⟩; have k1 := (Blk.new w 9 #[.string ⟨#[97]⟩]).below hb1 (by simp); have HB1 := hide hb1; clear hb1)
  have hz := HB1.out.size
  simp at hz
  have j1 := ((k1.alloc (.cells #[.int .i64 3, .int .i64 1, .string ⟨#[]⟩, .slice none 0 0, .slice none 0 0] 25)).alloc (.cells #[.int .i64 6, .int .i64 0, .string ⟨#[]⟩, .slice (some ⟨w1.heap.size, 0, none⟩) 1 1, .slice (some ⟨w.heap.size, 0, none⟩) 1 1] 25)).alloc (.cells #[.string ⟨#[97]⟩] 9)
  have j2 := ((Blk.new w1 25 #[.int .i64 3, .int .i64 1, .string ⟨#[]⟩, .slice none 0 0, .slice none 0 0]).alloc (.cells #[.int .i64 6, .int .i64 0, .string ⟨#[]⟩, .slice (some ⟨w1.heap.size, 0, none⟩) 1 1, .slice (some ⟨w.heap.size, 0, none⟩) 1 1] 25)).alloc (.cells #[.string ⟨#[97]⟩] 9)
  have j3 : Blk (((w1.alloc (.cells #[.int .i64 3, .int .i64 1, .string ⟨#[]⟩, .slice none 0 0, .slice none 0 0] 25)).alloc (.cells #[.int .i64 6, .int .i64 0, .string ⟨#[]⟩, .slice (some ⟨w1.heap.size, 0, none⟩) 1 1, .slice (some ⟨w.heap.size, 0, none⟩) 1 1] 25)).alloc (.cells #[.string ⟨#[97]⟩] 9)) (w1.heap.size + 1 + 1) 9 #[.string ⟨#[97]⟩] := by
    have := Blk.new ((w1.alloc (.cells #[.int .i64 3, .int .i64 1, .string ⟨#[]⟩, .slice none 0 0, .slice none 0 0] 25)).alloc (.cells #[.int .i64 6, .int .i64 0, .string ⟨#[]⟩, .slice (some ⟨w1.heap.size, 0, none⟩) 1 1, .slice (some ⟨w.heap.size, 0, none⟩) 1 1] 25)) 9 #[.string ⟨#[97]⟩]
    simpa using this
  have hBW : Below w.heap.size w (((w1.alloc (.cells #[.int .i64 3, .int .i64 1, .string ⟨#[]⟩, .slice none 0 0, .slice none 0 0] 25)).alloc (.cells #[.int .i64 6, .int .i64 0, .string ⟨#[]⟩, .slice (some ⟨w1.heap.size, 0, none⟩) 1 1, .slice (some ⟨w.heap.size, 0, none⟩) 1 1] 25)).alloc (.cells #[.string ⟨#[97]⟩] 9)) := ((((((Below.refl w.heap.size w).alloc (Nat.le_refl _) _).trans (HB1.out.mono (by simp))).alloc (by omega) _).alloc (by simp; omega) _).alloc (by simp; omega) _)
  refine (arg1_any 1 (fun _ _ => True) ⟨0, 0, ⟨#[]⟩, none, 0, 0, none, 0, 0⟩ ⟨6, 0, ⟨#[]⟩, some ⟨w1.heap.size, 0, none⟩, 1, 1, some ⟨w.heap.size, 0, none⟩, 1, 1⟩ recV oneV [97] none 0 0 (w1.heap.size + 1 + 1) 0 1 ⟨#[]⟩ 0 ⟨#[]⟩ (((w1.alloc (.cells #[.int .i64 3, .int .i64 1, .string ⟨#[]⟩, .slice none 0 0, .slice none 0 0] 25)).alloc (.cells #[.int .i64 6, .int .i64 0, .string ⟨#[]⟩, .slice (some ⟨w1.heap.size, 0, none⟩) 1 1, .slice (some ⟨w.heap.size, 0, none⟩) 1 1] 25)).alloc (.cells #[.string ⟨#[97]⟩] 9)) (recV_at _ _ _ j1 j2) smallRec rfl (smallRec.2.2.2.2 oneV (by simp [recV])) j3.lt (by have := j3.cell 0; simpa using this)).mono ?_
  rintro e w4 ⟨v, rfl, hv, hb4⟩
  obtain ⟨a5, c5, a6, c6, hve, _, _⟩ := hv.parts
  obtain ⟨k5, i5, s5, a7, n7, c7, b7, m7, e7⟩ := v
  have hi : i5 = 1 := by
    simp [valV, VF.val, oneV] at hve
    exact hve.2.1
  subst hi
  have HB := hide (hBW.trans (hb4.mono hBW.size))
  clear hv hve hb4 hBW j1 j2 j3 k1 HB1
  go_wp2_with (go_at_call 10; refine (num27_any 0 _).mono ?_; rintro e w5 ⟨rfl, rfl⟩)
  all_goals
    go_ret
    exact ⟨rfl, by first | exact HB.out | exact HB.out.alloc HB.out.size _⟩
end Go.Proofs.Ytdnmgpidfjkiaaa
