/-
  eval.Arg: a name, no path.
-/
import Derived.Test.YtdnmgpidfjkiaaaVFound
import Derived.Deep.Cut
import Derived.Deep.CutRange
namespace Go.Proofs.Ytdnmgpidfjkiaaa
open Go.RowKit
set_option linter.unusedVariables false
set_option linter.unusedSimpArgs false

theorem foundR_small {m : Nat} {nm : List UInt8} {root : VT m} {vars : List (List UInt8 × VT m)} (hroot : SmallV m root) (heach : ∀ y ∈ vars, SmallV m y.2) {x : VT m} (h : foundR nm root vars = some x) : SmallV m x := by
  unfold foundR at h
  by_cases hn : nm = []
  · rw [if_pos hn] at h
    injection h with h
    subst h
    exact hroot
  · rw [if_neg hn] at h
    obtain ⟨y, hy, rfl⟩ := Option.map_eq_some_iff.1 h
    exact heach y (List.mem_reverse.1 (List.mem_of_find?_eq_some hy))
abbrev argV (k : Int) (nm : ByteArray) (a : Option Addr) (n c : Nat) (i : Int) (t : ByteArray) : Value := .agg #[.int .i64 k, .string nm, .slice a n c, .int .i64 i, .string t]
set_option maxRecDepth 100000 in
set_option maxHeartbeats 8000000 in
theorem argN_any (m : Nat) (U : World → Nat → Prop) (hU : ∀ w w' b, Below w.heap.size w w' → b < w.heap.size → U w b → U w' b) (r d : VF) (root dot : VT m) (vars : List (List UInt8 × VT m)) (a : Option Addr) (c : Nat) (nm : List UInt8) (w : World)
    (h : IsE U w m r d a root dot vars) (hlen : vars.length * 96 ≤ 140737488355328) (hroot : SmallV m root) (heach : ∀ y ∈ vars, SmallV m y.2) :
    Calls Try.prog 9 #[.agg (envV r d a vars.length c), argV 2 ⟨nm.toArray⟩ none 0 0 0 ⟨#[]⟩] w fun e w' => ∃ (v : VF) (k : Int), e = .returned (.tuple #[v.val, .int .i64 k]) ∧ FoundV (freshB w.heap.size) w' m (foundR nm root vars) v.val k ∧ Below w.heap.size w w' := by
  obtain ⟨kr, ir, sr, ar, nr, cr, br, mr, er⟩ := r
  obtain ⟨kd, id, sd, ad, nd, cd, bd, md, ed⟩ := d
  have hBW : Below w.heap.size w ((((w.alloc (.cells (envV ⟨kr, ir, sr, ar, nr, cr, br, mr, er⟩ ⟨kd, id, sd, ad, nd, cd, bd, md, ed⟩ a vars.length c) 32)).alloc (.cells #[.int .i64 2, .string ⟨nm.toArray⟩, .slice none 0 0, .int .i64 0, .string ⟨#[]⟩] 39)).alloc (.cells #[.int .i64 0, .int .i64 0, .string ⟨#[]⟩, .slice none 0 0, .slice none 0 0] 25)).alloc (.cells #[.int .i64 kd, .int .i64 id, .string sd, .slice ad nd cd, .slice bd md ed] 25)) := (((((Below.refl w.heap.size w).alloc (Nat.le_refl _) _).alloc (by simp) _).alloc (by simp; omega) _).alloc (by simp; omega) _)
  have k2 : Blk ((((w.alloc (.cells (envV ⟨kr, ir, sr, ar, nr, cr, br, mr, er⟩ ⟨kd, id, sd, ad, nd, cd, bd, md, ed⟩ a vars.length c) 32)).alloc (.cells #[.int .i64 2, .string ⟨nm.toArray⟩, .slice none 0 0, .int .i64 0, .string ⟨#[]⟩] 39)).alloc (.cells #[.int .i64 0, .int .i64 0, .string ⟨#[]⟩, .slice none 0 0, .slice none 0 0] 25)).alloc (.cells #[.int .i64 kd, .int .i64 id, .string sd, .slice ad nd cd, .slice bd md ed] 25)) (w.heap.size + 1 + 1) 25 #[.int .i64 0, .int .i64 0, .string ⟨#[]⟩, .slice none 0 0, .slice none 0 0] := by
    have := (Blk.new ((w.alloc (.cells (envV ⟨kr, ir, sr, ar, nr, cr, br, mr, er⟩ ⟨kd, id, sd, ad, nd, cd, bd, md, ed⟩ a vars.length c) 32)).alloc (.cells #[.int .i64 2, .string ⟨nm.toArray⟩, .slice none 0 0, .int .i64 0, .string ⟨#[]⟩] 39)) 25 #[.int .i64 0, .int .i64 0, .string ⟨#[]⟩, .slice none 0 0, .slice none 0 0]).alloc (.cells #[.int .i64 kd, .int .i64 id, .string sd, .slice ad nd cd, .slice bd md ed] 25)
    simpa using this
  have k3 : Blk ((((w.alloc (.cells (envV ⟨kr, ir, sr, ar, nr, cr, br, mr, er⟩ ⟨kd, id, sd, ad, nd, cd, bd, md, ed⟩ a vars.length c) 32)).alloc (.cells #[.int .i64 2, .string ⟨nm.toArray⟩, .slice none 0 0, .int .i64 0, .string ⟨#[]⟩] 39)).alloc (.cells #[.int .i64 0, .int .i64 0, .string ⟨#[]⟩, .slice none 0 0, .slice none 0 0] 25)).alloc (.cells #[.int .i64 kd, .int .i64 id, .string sd, .slice ad nd cd, .slice bd md ed] 25)) (w.heap.size + 1 + 1 + 1) 25 #[.int .i64 kd, .int .i64 id, .string sd, .slice ad nd cd, .slice bd md ed] := by
    have := (Blk.new (((w.alloc (.cells (envV ⟨kr, ir, sr, ar, nr, cr, br, mr, er⟩ ⟨kd, id, sd, ad, nd, cd, bd, md, ed⟩ a vars.length c) 32)).alloc (.cells #[.int .i64 2, .string ⟨nm.toArray⟩, .slice none 0 0, .int .i64 0, .string ⟨#[]⟩] 39)).alloc (.cells #[.int .i64 0, .int .i64 0, .string ⟨#[]⟩, .slice none 0 0, .slice none 0 0] 25)) 25 #[.int .i64 kd, .int .i64 id, .string sd, .slice ad nd cd, .slice bd md ed])
    simpa using this
  have k1 : Blk ((((w.alloc (.cells (envV ⟨kr, ir, sr, ar, nr, cr, br, mr, er⟩ ⟨kd, id, sd, ad, nd, cd, bd, md, ed⟩ a vars.length c) 32)).alloc (.cells #[.int .i64 2, .string ⟨nm.toArray⟩, .slice none 0 0, .int .i64 0, .string ⟨#[]⟩] 39)).alloc (.cells #[.int .i64 0, .int .i64 0, .string ⟨#[]⟩, .slice none 0 0, .slice none 0 0] 25)).alloc (.cells #[.int .i64 kd, .int .i64 id, .string sd, .slice ad nd cd, .slice bd md ed] 25)) (w.heap.size + 1) 39 #[.int .i64 2, .string ⟨nm.toArray⟩, .slice none 0 0, .int .i64 0, .string ⟨#[]⟩] := by
    have := (((Blk.new (w.alloc (.cells (envV ⟨kr, ir, sr, ar, nr, cr, br, mr, er⟩ ⟨kd, id, sd, ad, nd, cd, bd, md, ed⟩ a vars.length c) 32)) 39 #[.int .i64 2, .string ⟨nm.toArray⟩, .slice none 0 0, .int .i64 0, .string ⟨#[]⟩]).alloc (.cells #[.int .i64 0, .int .i64 0, .string ⟨#[]⟩, .slice none 0 0, .slice none 0 0] 25)).alloc (.cells #[.int .i64 kd, .int .i64 id, .string sd, .slice ad nd cd, .slice bd md ed] 25))
    simpa using this
  have cF := hide (fun (_ : Unit) => found_any m (fun _ b => U w b ∧ b < w.heap.size) (fun _ _ _ _ _ h => h) ⟨kr, ir, sr, ar, nr, cr, br, mr, er⟩ ⟨kd, id, sd, ad, nd, cd, bd, md, ed⟩ root dot vars a c nm ((((w.alloc (.cells (envV ⟨kr, ir, sr, ar, nr, cr, br, mr, er⟩ ⟨kd, id, sd, ad, nd, cd, bd, md, ed⟩ a vars.length c) 32)).alloc (.cells #[.int .i64 2, .string ⟨nm.toArray⟩, .slice none 0 0, .int .i64 0, .string ⟨#[]⟩] 39)).alloc (.cells #[.int .i64 0, .int .i64 0, .string ⟨#[]⟩, .slice none 0 0, .slice none 0 0] 25)).alloc (.cells #[.int .i64 kd, .int .i64 id, .string sd, .slice ad nd cd, .slice bd md ed] 25)) (h.on ⟨hBW.size, fun b h1 h2 => ⟨hBW.block b h1, h2, h1⟩⟩) hlen)
  have hsm := hide (fun (x : VT m) (hx : foundR nm root vars = some x) => foundR_small hroot heach hx)
  obtain ⟨nmb, hnm⟩ : ∃ nmb : ByteArray, (⟨nm.toArray⟩ : ByteArray) = nmb := ⟨_, rfl⟩
  rw [hnm] at cF k1 k2 k3 hBW ⊢
  have HK1 := hide k1; have HK2 := hide k2; have HK3 := hide k3; have HBW := hide hBW
  clear h hroot heach k1 k2 k3 hBW hnm hU
  go_enter Try.func9, Try.ntmps9
  go_wp2_with (go_at_call 29; refine ((cF.out ()).mono ?_); rintro e w1 ⟨⟨kv, iv, sv, av, nv, cv, bv, mv, dv⟩, k, rfl, hv, hb1⟩; have hB1 : Below w.heap.size w w1 := HBW.out.trans (hb1.mono HBW.out.size); have k31 := HK3.out.below hb1 HK3.out.lt; have k11 := HK1.out.below hb1 HK1.out.lt; have k21 := HK2.out.below hb1 HK2.out.lt; have o0 := k31.cell 0; have o1 := k31.cell 1; have o2 := k31.cell 2; have o3 := k31.cell 3; have o4 := k31.cell 4; have y0 := k31.frozen 0; have y1 := k31.frozen 1; have y2 := k31.frozen 2; have y3 := k31.frozen 3; have y4 := k31.frozen 4; have p2 := k11.cell 2; have HV := hide hv; have HB1 := hide hB1; have HK31 := hide k31; have HK21 := hide k21; clear hv hB1 k31 k21 k11 hb1; simp at o0 o1 o2 o3 o4 p2)
  have hB2 := set5_below HB1.out (b := w.heap.size + 1 + 1 + 1) (by omega) (.int .i64 kv) (.int .i64 iv) (.string sv) (.slice av nv cv) (.slice bv mv dv)
  have k32 := set5_blk HK31.out (.int .i64 kv) (.int .i64 iv) (.string sv) (.slice av nv cv) (.slice bv mv dv)
  have k22 : Blk (set5 w1 (w.heap.size + 1 + 1 + 1) (.int .i64 kv) (.int .i64 iv) (.string sv) (.slice av nv cv) (.slice bv mv dv)) (w.heap.size + 1 + 1) 25 #[.int .i64 0, .int .i64 0, .string ⟨#[]⟩, .slice none 0 0, .slice none 0 0] := (set5_heap _ _ _ _ _ _ _ _ (by omega)).trans HK21.out
  have hst : Stays (fun _ b => U w b ∧ b < w.heap.size) (fun _ b => U w b ∧ b < w.heap.size) w1 (set5 w1 (w.heap.size + 1 + 1 + 1) (.int .i64 kv) (.int .i64 iv) (.string sv) (.slice av nv cv) (.slice bv mv dv)) := ⟨by simp [set5], fun b _ h => ⟨set5_heap _ _ _ _ _ _ _ _ (by have := h.2; omega), h⟩⟩
  have hFV := fun x => IsV.on hst m (VF.val ⟨kv, iv, sv, av, nv, cv, bv, mv, dv⟩) x
  unfold set5 at hB2 k32 k22 hFV
  clear hst
  generalize (((((w1.setCell ⟨w.heap.size + 1 + 1 + 1, 0, none⟩ (.int .i64 kv)).setCell ⟨w.heap.size + 1 + 1 + 1, 1, none⟩ (.int .i64 iv)).setCell ⟨w.heap.size + 1 + 1 + 1, 2, none⟩ (.string sv)).setCell ⟨w.heap.size + 1 + 1 + 1, 3, none⟩ (.slice av nv cv)).setCell ⟨w.heap.size + 1 + 1 + 1, 4, none⟩ (.slice bv mv dv)) = w2 at hB2 k32 k22 hFV ⊢
  have HB2 := hide hB2; have HK32 := hide k32; have HK22 := hide k22; have HFV := hide hFV
  have r0 := k32.cell 0; have r1 := k32.cell 1; have r2 := k32.cell 2; have r3 := k32.cell 3; have r4 := k32.cell 4
  have q0 := k22.cell 0; have q1 := k22.cell 1; have q2 := k22.cell 2; have q3 := k22.cell 3; have q4 := k22.cell 4
  have z0 := k22.frozen 0; have z1 := k22.frozen 1; have z2 := k22.frozen 2; have z3 := k22.frozen 3; have z4 := k22.frozen 4
  simp at r0 r1 r2 r3 r4 q0 q1 q2 q3 q4
  clear hB2 k32 k22 hFV o0 o1 o2 o3 o4 y0 y1 y2 y3 y4 p2 HK31 HK21
  have HVV := hide (show (∃ x, foundR nm root vars = some x ∧ IsV (fun _ b => U w b ∧ b < w.heap.size) w1 m (VF.val ⟨kv, iv, sv, av, nv, cv, bv, mv, dv⟩) x ∧ k = 0) ∨ (foundR nm root vars = none ∧ k = 31) by
    have := HV.out
    rcases hf : foundR nm root vars with _ | x
    · rw [hf] at this; exact .inr ⟨rfl, this.2⟩
    · rw [hf] at this; exact .inl ⟨x, rfl, this.1, this.2⟩)
  clear HV
  go_loopw [7, 48] (fun kv7 iv8 wr => kv7 = .int .i64 k ∧ iv8 = .int .i64 0 ∧ wr = w2) (fun _ _ _ => 0)
  case atStart => exact ⟨rfl, rfl, rfl⟩
  case round =>
    obtain ⟨rfl, rfl, rfl⟩ := hrel
    rcases HVV.out with ⟨x, hf, hvx, rfl⟩ | ⟨hf, rfl⟩
    · have cC := hide (clone_any m (fun _ b => U w b ∧ b < w.heap.size) (fun _ _ _ _ _ h => h) _ x wr (HFV.out x hvx) (hsm.out x hf))
      have HF := hide hf
      clear hf hvx
      go_wp2_with (go_at_call 14; refine (cC.out).mono ?_; rintro e w3 ⟨v3, rfl, hV3, hb3⟩; obtain ⟨⟨k3, i3, s3, a3, n3, c3, b3, m3, d3⟩, rfl⟩ := hV3.shape; have k23 := HK22.out.below hb3 HK22.out.lt; have o0 := k23.cell 0; have o1 := k23.cell 1; have o2 := k23.cell 2; have o3 := k23.cell 3; have o4 := k23.cell 4; have y0 := k23.frozen 0; have y1 := k23.frozen 1; have y2 := k23.frozen 2; have y3 := k23.frozen 3; have y4 := k23.frozen 4; simp at o0 o1 o2 o3 o4; have HV3 := hide hV3; have HB3 := hide hb3; have HK23 := hide k23; clear hV3 hb3 k23)
      have hz2 := HB2.out.size; have hz3 := HB3.out.size; have hl2 := HK22.out.lt
      have hB5 := set5_below (HB2.out.trans (HB3.out.mono HB2.out.size)) (b := w.heap.size + 1 + 1) (by omega) (.int .i64 k3) (.int .i64 i3) (.string s3) (.slice a3 n3 c3) (.slice b3 m3 d3)
      have k5 := set5_blk HK23.out (.int .i64 k3) (.int .i64 i3) (.string s3) (.slice a3 n3 c3) (.slice b3 m3 d3)
      have hst : Stays (freshB wr.heap.size) (freshB w.heap.size) w3 (set5 w3 (w.heap.size + 1 + 1) (.int .i64 k3) (.int .i64 i3) (.string s3) (.slice a3 n3 c3) (.slice b3 m3 d3)) := ⟨by simp [set5], fun b _ ⟨h1, cs, t, h2⟩ => by
        have e := set5_heap w3 (w.heap.size + 1 + 1) (.int .i64 k3) (.int .i64 i3) (.string s3) (.slice a3 n3 c3) (.slice b3 m3 d3) b (by omega)
        exact ⟨e, by omega, cs, t, e.trans h2⟩⟩
      have hV5 := IsV.on hst m _ _ HV3.out
      unfold set5 at hB5 k5 hV5
      clear hst o0 o1 o2 o3 o4 y0 y1 y2 y3 y4
      generalize (((((w3.setCell ⟨w.heap.size + 1 + 1, 0, none⟩ (.int .i64 k3)).setCell ⟨w.heap.size + 1 + 1, 1, none⟩ (.int .i64 i3)).setCell ⟨w.heap.size + 1 + 1, 2, none⟩ (.string s3)).setCell ⟨w.heap.size + 1 + 1, 3, none⟩ (.slice a3 n3 c3)).setCell ⟨w.heap.size + 1 + 1, 4, none⟩ (.slice b3 m3 d3)) = w5 at hB5 k5 hV5 ⊢
      have HB5 := hide hB5; have HV5 := hide hV5
      have t0 := k5.cell 0; have t1 := k5.cell 1; have t2 := k5.cell 2; have t3 := k5.cell 3; have t4 := k5.cell 4
      simp at t0 t1 t2 t3 t4
      clear hB5 k5 hV5
      have HG := hide (show FoundV (freshB w.heap.size) w5 m (foundR nm root vars) (VF.val ⟨k3, i3, s3, a3, n3, c3, b3, m3, d3⟩) 0 by rw [HF.out]; exact ⟨HV5.out, rfl⟩)
      simp [bodyPost, results, Try.results9, go_sem, t0, t1, t2, t3, t4]
      exact ⟨⟨k3, i3, s3, a3, n3, c3, b3, m3, d3⟩, 0, by simp, HG.out, HB5.out⟩
    · have HF := hide hf
      clear hf
      go_wp2_with fail
      have hl2 := HK22.out.lt
      have hB5 := set5_below HB2.out (b := w.heap.size + 1 + 1) (by omega) (.int .i64 0) (.int .i64 0) (.string ⟨#[]⟩) (.slice none 0 0) (.slice none 0 0)
      have k5 := set5_blk HK22.out (.int .i64 0) (.int .i64 0) (.string ⟨#[]⟩) (.slice none 0 0) (.slice none 0 0)
      unfold set5 at hB5 k5
      clear q0 q1 q2 q3 q4 z0 z1 z2 z3 z4 r0 r1 r2 r3 r4
      generalize (((((wr.setCell ⟨w.heap.size + 1 + 1, 0, none⟩ (.int .i64 0)).setCell ⟨w.heap.size + 1 + 1, 1, none⟩ (.int .i64 0)).setCell ⟨w.heap.size + 1 + 1, 2, none⟩ (.string ⟨#[]⟩)).setCell ⟨w.heap.size + 1 + 1, 3, none⟩ (.slice none 0 0)).setCell ⟨w.heap.size + 1 + 1, 4, none⟩ (.slice none 0 0)) = w5 at hB5 k5 ⊢
      have HB5 := hide hB5
      have t0 := k5.cell 0; have t1 := k5.cell 1; have t2 := k5.cell 2; have t3 := k5.cell 3; have t4 := k5.cell 4
      simp at t0 t1 t2 t3 t4
      clear hB5 k5
      have HG := hide (show FoundV (freshB w.heap.size) w5 m (foundR nm root vars) (VF.val ⟨0, 0, ⟨#[]⟩, none, 0, 0, none, 0, 0⟩) 31 by rw [HF.out]; exact ⟨rfl, rfl⟩)
      simp [bodyPost, results, Try.results9, go_sem, t0, t1, t2, t3, t4]
      exact ⟨⟨0, 0, ⟨#[]⟩, none, 0, 0, none, 0, 0⟩, 31, by simp, HG.out, HB5.out⟩
end Go.Proofs.Ytdnmgpidfjkiaaa
