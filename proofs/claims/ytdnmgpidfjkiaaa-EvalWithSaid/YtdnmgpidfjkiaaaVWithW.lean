/-
  eval.With.
-/
import Derived.Test.YtdnmgpidfjkiaaaVWith
namespace Go.Proofs.Ytdnmgpidfjkiaaa
open Go.RowKit
set_option linter.unusedVariables false
set_option linter.unusedSimpArgs false

set_option maxHeartbeats 20000000 in
set_option maxRecDepth 100000 in
theorem with_any (m : Nat) (U Uv : World → Nat → Prop) (hU : ∀ w w' b, Below w.heap.size w w' → b < w.heap.size → U w b → U w' b) (hUv : ∀ w w' b, Below w.heap.size w w' → b < w.heap.size → Uv w b → Uv w' b) (r d : VF) (root dot : VT m) (vars : List (List UInt8 × VT m)) (a : Option Addr) (c : Nat) (nm : List UInt8) (v : Value) (x : VT m) (w : World)
    (hF : ∀ w' b, freshB w.heap.size w' b → U w' b) (h : IsE U w m r d a root dot vars) (hlen : vars.length * 96 ≤ 140737488351232) (hv : IsV Uv w m v x) (hx : SmallV m x) :
    Calls Try.prog 8 #[.agg (envV r d a vars.length c), .string ⟨nm.toArray⟩, v] w fun e w' => ∃ a' c', e = .returned (.agg (envV r d a' (vars.length + 1) c')) ∧ IsE U w' m r d a' root dot (vars ++ [(nm, x)]) ∧ Below w.heap.size w w' := by
  obtain ⟨kr, ir, sr, ar, nr, cr, br, mr, er⟩ := r
  obtain ⟨kd, id, sd, ad, nd, cd, bd, md, ed⟩ := d
  obtain ⟨⟨kv, iv, sv, av, nv, cv, bv, mv, dv⟩, rfl⟩ := hv.shape
  obtain ⟨j0, hj, hv0, hv1, hv2⟩ := info_parts info_named
  obtain ⟨es, hes, hEN, hEC⟩ := h.vars.list
  have hane : a = none → vars.length = 0 := by
    intro ha
    rcases hvv : vars with _ | ⟨y, l⟩
    · rfl
    · obtain ⟨b, off, _, hb, _⟩ := h.vars 0 y (by rw [hvv]; rfl)
      rw [ha] at hb; cases hb
  obtain ⟨W, hW⟩ : ∃ W, ((w.alloc (.cells (envV ⟨kr, ir, sr, ar, nr, cr, br, mr, er⟩ ⟨kd, id, sd, ad, nd, cd, bd, md, ed⟩ a vars.length c) 32)).alloc (.cells #[.int .i64 kv, .int .i64 iv, .string sv, .slice av nv cv, .slice bv mv dv] 25)).alloc (.cells zeroEnv 32) = W := ⟨_, rfl⟩
  have hBW : Below w.heap.size w W := by rw [← hW]; exact (((Below.refl _ _).alloc (Nat.le_refl _) _).alloc (by simp) _).alloc (by simp; omega) _
  have K1 : Blk W w.heap.size 32 (envV ⟨kr, ir, sr, ar, nr, cr, br, mr, er⟩ ⟨kd, id, sd, ad, nd, cd, bd, md, ed⟩ a vars.length c) := by
    rw [← hW]; exact ((Blk.new w _ _).alloc _).alloc _
  have K2 : Blk W (w.heap.size + 1) 25 #[.int .i64 kv, .int .i64 iv, .string sv, .slice av nv cv, .slice bv mv dv] := by
    rw [← hW]
    have := (Blk.new (w.alloc (.cells (envV ⟨kr, ir, sr, ar, nr, cr, br, mr, er⟩ ⟨kd, id, sd, ad, nd, cd, bd, md, ed⟩ a vars.length c) 32)) 25 #[.int .i64 kv, .int .i64 iv, .string sv, .slice av nv cv, .slice bv mv dv]).alloc (.cells zeroEnv 32)
    simpa using this
  have K3 : Blk W (w.heap.size + 1 + 1) 32 zeroEnv := by
    rw [← hW]
    have := Blk.new ((w.alloc (.cells (envV ⟨kr, ir, sr, ar, nr, cr, br, mr, er⟩ ⟨kd, id, sd, ad, nd, cd, bd, md, ed⟩ a vars.length c) 32)).alloc (.cells #[.int .i64 kv, .int .i64 iv, .string sv, .slice av nv cv, .slice bv mv dv] 25)) 32 zeroEnv
    simpa using this
  have hl3 := K3.lt
  have HEC := hide hEC
  have cC := hide (fun W' (hb : Below w.heap.size w W') => cloneN_any a vars.length c (es.flatMap NF.cells) W' (by rw [flat6_len, hes]) (by omega) (flat6_one es) hane (fun ad ha t u ht => by
    have h2 := HEC.out ad ha t u ht
    have hlt := (List.getElem?_eq_some_iff.1 ht).1
    rw [flat6_len, hes] at hlt
    rcases hvv : vars with _ | ⟨y, l⟩
    · rw [hvv] at hlt; simp at hlt
    · obtain ⟨b, off, _, hb2, hbl, _⟩ := h.vars 0 y (by rw [hvv]; rfl)
      rw [ha] at hb2
      injection hb2 with hb2
      subst hb2
      rw [Addr.add_lit] at h2 ⊢
      exact (hb.cell (p := ⟨b, off + t, none⟩) hbl).trans h2))
  have cV := hide (fun W' (hb : Below w.heap.size w W') => clone_any m Uv hUv _ x W' (IsV.on (Stays.of_below hb fun b h1 => hUv _ _ b hb h1) m _ _ hv) hx)
  have K5 : ∀ w' : World, Below W.heap.size W w' → (w'.cell? ⟨w.heap.size, 10, none⟩ = some (.slice a vars.length c) ∧ w'.cell? ⟨w.heap.size + 1, 0, none⟩ = some (.int .i64 kv) ∧ w'.cell? ⟨w.heap.size + 1, 1, none⟩ = some (.int .i64 iv) ∧ w'.cell? ⟨w.heap.size + 1, 2, none⟩ = some (.string sv) ∧ w'.cell? ⟨w.heap.size + 1, 3, none⟩ = some (.slice av nv cv) ∧ w'.cell? ⟨w.heap.size + 1, 4, none⟩ = some (.slice bv mv dv)) := fun w' hb => ⟨(hb.cell (p := ⟨w.heap.size, 10, none⟩) K1.lt).trans (K1.cell 10), (hb.cell (p := ⟨w.heap.size + 1, 0, none⟩) K2.lt).trans (K2.cell 0), (hb.cell (p := ⟨w.heap.size + 1, 1, none⟩) K2.lt).trans (K2.cell 1), (hb.cell (p := ⟨w.heap.size + 1, 2, none⟩) K2.lt).trans (K2.cell 2), (hb.cell (p := ⟨w.heap.size + 1, 3, none⟩) K2.lt).trans (K2.cell 3), (hb.cell (p := ⟨w.heap.size + 1, 4, none⟩) K2.lt).trans (K2.cell 4)⟩
  have HK5 := hide K5
  have HD := hide (fun (w2 w3 w4 : World) (ev : VF) (hX : IsV (freshB (w.heap.size + 3)) w2 m ev.val x) (h23 : Below w2.heap.size w2 w3) (hB : Below w.heap.size w w3) (hz : w.heap.size + 3 ≤ w3.heap.size) (v4 : Value) (hown : w4.ownsRow w3.heap.size 58 6 v4 (es.length + 1) (es.flatMap NF.cells ++ NF.cells ⟨⟨nm.toArray⟩, ev⟩)) (hg : w3.grownBy w4 none) (u v0 v1 v2 v3 v4' v5 v6 v7 v8 v9 v10 : Value) => with_done hU hF h hes hEN hX h23 hB hz hown hg u v0 v1 v2 v3 v4' v5 v6 v7 v8 v9 v10)
  have HK1 := hide K1; have HK3 := hide K3; have HBW := hide hBW; have HW := hide hW
  obtain ⟨nmb, hnm⟩ : ∃ nmb : ByteArray, (⟨nm.toArray⟩ : ByteArray) = nmb := ⟨_, rfl⟩
  have HN := hide hnm
  rw [hnm] at HD ⊢
  have hon := flat6_one es
  have HON := hide hon
  have hfl : (es.flatMap NF.cells).length = vars.length * 6 := by rw [flat6_len, hes]
  have HFL := hide hfl
  clear h hv hx hEN hEC hane K1 K2 K3 K5 hBW hW hU hUv hF hnm hon hfl
  go_enter Try.func8, Try.ntmps8
  go_wp2_with fail
  rw [HW.out]
  refine wp_region_head (fun w' => w'.cell? ⟨w.heap.size, 10, none⟩ = some (.slice a vars.length c) ∧ w'.cell? ⟨w.heap.size + 1, 0, none⟩ = some (.int .i64 kv) ∧ w'.cell? ⟨w.heap.size + 1, 1, none⟩ = some (.int .i64 iv) ∧ w'.cell? ⟨w.heap.size + 1, 2, none⟩ = some (.string sv) ∧ w'.cell? ⟨w.heap.size + 1, 3, none⟩ = some (.slice av nv cv) ∧ w'.cell? ⟨w.heap.size + 1, 4, none⟩ = some (.slice bv mv dv))
    [0, 1, 4, 5] [2, 3, 6, 7, 8] 9 (by kernel_rfl) (by kernel_rfl) (by rintro (_ | d) v c a w h <;> exact h) (HK5.out W.drew (Below.refl W.heap.size W).drew) ?_
  iterate 4
    apply walkY_cons _ (by rfl) (by rfl)
    · intro w' hw
      obtain ⟨q0, q1, q2, q3, q4, q5⟩ := hw
      go_simp
      with_reducible rfl
    simp only [Act.put, List.setIfInBounds_toArray, List.set_cons_zero, List.set_cons_succ]
  refine walkH_cons (by rfl) fun Kh hKh => ?_
  go_wp2_with (go_at_call 28; refine (cC.out _ (HBW.out.drew)).mono ?_; rintro e w1 ⟨v1, rfl, hown1, hb1⟩)
  obtain ⟨A1, c1, rfl⟩ := own_sliceV hown1
  obtain ⟨hcap1, hnone1, hcel1⟩ := own_capV hown1
  have hW1 := (Below.refl W.heap.size W).drew.trans hb1
  have hB1 : Below w.heap.size w w1 := HBW.out.trans (hW1.mono HBW.out.size)
  have HOWN1 := hide hown1
  have HCEL1 := hide hcel1
  clear hown1 hcel1
  refine hKh _ _ (HK5.out _ hW1) ?_
  clear hKh Kh
  refine walkH_cons (by rfl) fun Kh hKh => ?_
  go_wp2_with (go_at_call 27; refine (clipN_any A1 _ c1 _ hcap1 (fun e => (hnone1 e).2)).mono ?_; rintro e w1 ⟨rfl, rfl⟩)
  refine hKh _ _ (HK5.out _ hW1) ?_
  clear hKh Kh
  refine walkH_cons (by rfl) fun Kh hKh => ?_
  go_wp2_with (go_at_call 14; refine (cV.out _ hB1).mono ?_; rintro e w2 ⟨v2, rfl, hV2, hb2⟩; obtain ⟨⟨k2, i2, s2, a2, n2, c2, b2, m2, e2⟩, rfl⟩ := hV2.shape)
  have hW2 := below_step hW1 hb2
  have HV2 := hide hV2
  clear hV2
  refine hKh _ _ (HK5.out _ hW2) ?_
  clear hKh Kh
  refine walkH_cons (by rfl) fun Kh hKh => ?_
  go_wp2_with fail
  refine hKh _ _ (HK5.out _ hW2) ?_
  clear hKh Kh
  refine walkH_cons (by rfl) fun Kh hKh => ?_
  go_wp2_with fail
  refine hKh _ _ (HK5.out _ (hW2.alloc hW2.size _)) ?_
  clear hKh Kh
  refine walkH_nil ?_
  simp only [List.drop]
  have hz1 := hW1.size; have hz2 := hb2.size
  refine wpList_append_grows _ (by rfl) _ _ 30 (by rfl) 58 j0 (.agg #[.string ⟨#[]⟩, .int .i64 0, .int .i64 0, .string ⟨#[]⟩, .slice none 0 0, .slice none 0 0]) 6 96 Try.underlying30 hj hv0 hv1 hv2 rfl (by decide) A1 vars.length vars.length (es.flatMap NF.cells) (by rfl) (fun e => ⟨(hnone1 e).1, (hnone1 e).1⟩) HFL.out ?olds ⟨w2.heap.size, 0, none⟩ 1 1 (NF.cells ⟨nmb, ⟨k2, i2, s2, a2, n2, c2, b2, m2, e2⟩⟩) (by rfl) (by rfl) ?news ?one (by omega) ?mx (by omega) ?_
  case olds =>
    intro ad ha t u ht
    obtain ⟨hgl, hgc⟩ := HCEL1.out ad ha t u ht
    exact (((Below.refl w2.heap.size w2).alloc (Nat.le_refl _) _).cell (Nat.lt_of_lt_of_le hgl hz2)).trans ((hb2.cell hgl).trans hgc)
  case news => intro t u ht; match t, ht with | 0, ht => (simp [NF.cells] at ht; subst ht; simp [Addr.add]) | 1, ht => (simp [NF.cells] at ht; subst ht; simp [Addr.add]) | 2, ht => (simp [NF.cells] at ht; subst ht; simp [Addr.add]) | 3, ht => (simp [NF.cells] at ht; subst ht; simp [Addr.add]) | 4, ht => (simp [NF.cells] at ht; subst ht; simp [Addr.add]) | 5, ht => (simp [NF.cells] at ht; subst ht; simp [Addr.add])
  case one => intro u hu; simp [NF.cells] at hu; rcases hu with rfl | rfl | rfl | rfl | rfl | rfl <;> rfl
  case mx => unfold maxLen; omega
  intro v4 w4 hown4 hgrow4
  obtain ⟨A4, c4, rfl⟩ := own_sliceV hown4
  have b4 : Blk w4 w.heap.size 32 (envV ⟨kr, ir, sr, ar, nr, cr, br, mr, er⟩ ⟨kd, id, sd, ad, nd, cd, bd, md, ed⟩ a vars.length c) := ((HK1.out.below hW2 HK1.out.lt).alloc _).grown hgrow4 (by simp)
  have k4 : Blk w4 (w.heap.size + 1 + 1) 32 zeroEnv := ((HK3.out.below hW2 hl3).alloc _).grown hgrow4 (by simp)
  have r0 := b4.cell 0; have r1 := b4.cell 1; have r2 := b4.cell 2; have r3 := b4.cell 3; have r4 := b4.cell 4; have r5 := b4.cell 5; have r6 := b4.cell 6; have r7 := b4.cell 7; have r8 := b4.cell 8; have r9 := b4.cell 9; have r10 := b4.cell 10
  have o0 := k4.cell 0; have o1 := k4.cell 1; have o2 := k4.cell 2; have o3 := k4.cell 3; have o4 := k4.cell 4; have o5 := k4.cell 5; have o6 := k4.cell 6; have o7 := k4.cell 7; have o8 := k4.cell 8; have o9 := k4.cell 9; have o10 := k4.cell 10
  have y0 := k4.frozen 0; have y1 := k4.frozen 1; have y2 := k4.frozen 2; have y3 := k4.frozen 3; have y4 := k4.frozen 4; have y5 := k4.frozen 5; have y6 := k4.frozen 6; have y7 := k4.frozen 7; have y8 := k4.frozen 8; have y9 := k4.frozen 9; have y10 := k4.frozen 10; have x10 := b4.frozen 10
  simp at r0 r1 r2 r3 r4 r5 r6 r7 r8 r9 r10 o0 o1 o2 o3 o4 o5 o6 o7 o8 o9 o10
  have l4 := b4.lt; have m4 := k4.lt
  have hX2 : IsV (freshB (w.heap.size + 3)) w2 m (VF.val ⟨k2, i2, s2, a2, n2, c2, b2, m2, e2⟩) x := IsV.on (U := freshB w1.heap.size) ⟨Nat.le_refl _, fun b _ ⟨q1, q2⟩ => ⟨rfl, by omega, q2⟩⟩ m _ _ HV2.out
  have hD := HD.out _ _ _ _ hX2 ((Below.refl w2.heap.size w2).alloc (Nat.le_refl _) _) ((hB1.trans (hb2.mono hB1.size)).alloc (by omega) _) (by simp; omega) _ (by rw [hes]; exact hown4) hgrow4 (.slice A4 (vars.length + 1) c4) (.int .i64 kr) (.int .i64 ir) (.string sr) (.slice ar nr cr) (.slice br mr er) (.int .i64 kd) (.int .i64 id) (.string sd) (.slice ad nd cd) (.slice bd md ed) (.slice A4 (vars.length + 1) c4)
  have HDD := hide hD
  have k7 := set11_blk (k4.far (p := ⟨w.heap.size, 10, none⟩) (by simp; omega) (.slice A4 (vars.length + 1) c4)) (.int .i64 kr) (.int .i64 ir) (.string sr) (.slice ar nr cr) (.slice br mr er) (.int .i64 kd) (.int .i64 id) (.string sd) (.slice ad nd cd) (.slice bd md ed) (.slice A4 (vars.length + 1) c4)
  have HK7 := hide k7
  clear k7
  clear hD hown4 hgrow4 hX2 b4 k4
  go_wp2_with fail
  obtain ⟨A5, c5, hv5, hE5, hB5⟩ := HDD.out
  injection hv5 with hv6 hv7 hv8
  subst hv6; subst hv8
  have hK5 := HK7.out
  unfold set11 at hE5 hB5 hK5
  clear HDD HK7 r0 o0 y0 r1 o1 y1 r2 o2 y2 r3 o3 y3 r4 o4 y4 r5 o5 y5 r6 o6 y6 r7 o7 y7 r8 o8 y8 r9 o9 y9 r10 o10 y10 x10
  generalize ((((((((((((w4.setCell ⟨w.heap.size, 10, none⟩ (.slice A4 (vars.length + 1) c4)).setCell ⟨w.heap.size + 1 + 1, 0, none⟩ (.int .i64 kr)).setCell ⟨w.heap.size + 1 + 1, 1, none⟩ (.int .i64 ir)).setCell ⟨w.heap.size + 1 + 1, 2, none⟩ (.string sr)).setCell ⟨w.heap.size + 1 + 1, 3, none⟩ (.slice ar nr cr)).setCell ⟨w.heap.size + 1 + 1, 4, none⟩ (.slice br mr er)).setCell ⟨w.heap.size + 1 + 1, 5, none⟩ (.int .i64 kd)).setCell ⟨w.heap.size + 1 + 1, 6, none⟩ (.int .i64 id)).setCell ⟨w.heap.size + 1 + 1, 7, none⟩ (.string sd)).setCell ⟨w.heap.size + 1 + 1, 8, none⟩ (.slice ad nd cd)).setCell ⟨w.heap.size + 1 + 1, 9, none⟩ (.slice bd md ed)).setCell ⟨w.heap.size + 1 + 1, 10, none⟩ (.slice A4 (vars.length + 1) c4)) = w5 at hE5 hB5 hK5 ⊢
  have r0 := hK5.cell 0; have r1 := hK5.cell 1; have r2 := hK5.cell 2; have r3 := hK5.cell 3; have r4 := hK5.cell 4; have r5 := hK5.cell 5; have r6 := hK5.cell 6; have r7 := hK5.cell 7; have r8 := hK5.cell 8; have r9 := hK5.cell 9; have r10 := hK5.cell 10
  simp at r0 r1 r2 r3 r4 r5 r6 r7 r8 r9 r10
  have HE5 := hide hE5; have HB5 := hide hB5
  clear hE5 hB5
  simp [bodyPost, results, Try.results8, go_sem, r0, r1, r2, r3, r4, r5, r6, r7, r8, r9, r10]
  exact ⟨HE5.out, HB5.out⟩
end Go.Proofs.Ytdnmgpidfjkiaaa
