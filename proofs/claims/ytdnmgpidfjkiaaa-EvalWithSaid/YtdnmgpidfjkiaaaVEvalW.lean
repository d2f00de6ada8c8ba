/-
  'EvalWith': the walk.
-/
import Derived.Test.YtdnmgpidfjkiaaaVLaw27
import Derived.Test.YtdnmgpidfjkiaaaVWithW
import Derived.Test.YtdnmgpidfjkiaaaVOf
namespace Go.Proofs.Ytdnmgpidfjkiaaa
open Go.RowKit
set_option linter.unusedVariables false
set_option linter.unusedSimpArgs false

theorem any_ok : ∀ (w w' : World) (b : Nat), Below w.heap.size w w' → b < w.heap.size → anyB w b → anyB w' b := fun _ _ _ _ _ _ => trivial
theorem IsE.stepE {U : World → Nat → Prop} (hU : ∀ w w' b, Below w.heap.size w w' → b < w.heap.size → U w b → U w' b) {w w' : World} {m : Nat} {r d : VF} {a : Option Addr} {root dot : VT m} {vars : List (List UInt8 × VT m)} (h : IsE U w m r d a root dot vars) (hb : Below w.heap.size w w') : IsE U w' m r d a root dot vars :=
  h.on (Stays.of_below hb fun b h1 => hU _ _ b hb h1)
theorem FoundV.stepE {U : World → Nat → Prop} (hU : ∀ w w' b, Below w.heap.size w w' → b < w.heap.size → U w b → U w' b) {w w' : World} {m : Nat} {o : Option (VT m)} {v : Value} {k : Int} (h : FoundV U w m o v k) (hb : Below w.heap.size w w') : FoundV U w' m o v k := by
  cases o with
  | none => exact h
  | some x => exact ⟨h.1.stepV hU hb, h.2⟩
theorem zeroIs (U : World → Nat → Prop) (w : World) : IsV U w 1 (VF.val ⟨0, 0, ⟨#[]⟩, none, 0, 0, none, 0, 0⟩) (⟨0, 0, [], [], []⟩ : VN (VT 0)) :=
  IsV.made (n := 0) (d := (⟨0, 0, [], [], []⟩ : VN (VT 0))) (a := none) (a2 := none) (c := 0) (c2 := 0) (fun j x hx => by simp at hx) (fun j x hx => by simp at hx)
theorem sameFound {U1 U2 : World → Nat → Prop} (hU1 : ∀ w w' b, Below w.heap.size w w' → b < w.heap.size → U1 w b → U1 w' b) (hU2 : ∀ w w' b, Below w.heap.size w w' → b < w.heap.size → U2 w b → U2 w' b) {w : World} {n : Nat} {v1 v2 : Value} {k1 k2 : Int} {r : Option (VT n)} (h1 : FoundV U1 w n r v1 k1) (h2 : FoundV U2 w n r v2 k2) (hs : ∀ x, r = some x → SmallV n x) :
    Calls Try.prog 11 #[v1, v2] w fun e w' => e = .returned (.bool true) ∧ Below w.heap.size w w' := by
  cases r with
  | none =>
    obtain ⟨rfl, _⟩ := h1
    obtain ⟨rfl, _⟩ := h2
    have := same_any 1 U1 U2 hU1 hU2 _ _ (⟨0, 0, [], [], []⟩ : VN (VT 0)) (⟨0, 0, [], [], []⟩ : VN (VT 0)) w (zeroIs _ _) (zeroIs _ _) ⟨by decide, by decide, by decide, by decide, fun y hy => by cases hy⟩
    have he : eqV 1 (⟨0, 0, [], [], []⟩ : VN (VT 0)) (⟨0, 0, [], [], []⟩ : VN (VT 0)) = true := eqV_refl 1 _
    rw [he] at this
    exact this
  | some x =>
    have := same_any n U1 U2 hU1 hU2 v1 v2 x x w h1.1 h2.1 (hs x rfl)
    rw [eqV_refl] at this
    exact this
theorem sameCode {U1 U2 : World → Nat → Prop} {w w' : World} {n : Nat} {v1 v2 : Value} {k1 k2 : Int} {r : Option (VT n)} (h1 : FoundV U1 w n r v1 k1) (h2 : FoundV U2 w' n r v2 k2) : k1 = k2 := by
  cases r with
  | none => exact h1.2.trans h2.2.symm
  | some x => exact h1.2.trans h2.2.symm
theorem foundR_put {m : Nat} {nm : List UInt8} (hn : nm ≠ []) (root : VT m) (vars : List (List UInt8 × VT m)) (x : VT m) : foundR nm root (vars ++ [(nm, x)]) = some x := by
  unfold foundR
  rw [if_neg hn]
  simp
theorem foundR_other {m : Nat} {nm other : List UInt8} (hne : other ≠ nm) (root : VT m) (vars : List (List UInt8 × VT m)) (x : VT m) : foundR other root (vars ++ [(nm, x)]) = foundR other root vars := by
  unfold foundR
  simp [Ne.symm hne]
set_option maxRecDepth 100000 in
set_option maxHeartbeats 20000000 in
theorem evalWith_tree (m : Nat) (r d ev : VF) (root dot x : VT m) (vars : List (List UInt8 × VT m)) (a : Option Addr) (c : Nat) (nm other : List UInt8) (w : World) (hE : IsE anyB w m r d a root dot vars) (hS : SmallE m root dot vars) (hx : IsV anyB w m ev.val x) (hsx : SmallV m x) :
    Calls Try.prog 3 #[.agg (envV r d a vars.length c), .string ⟨nm.toArray⟩, ev.val, .string ⟨other.toArray⟩] w fun e w' => e = .returned (.bool true) ∧ Below w.heap.size w w' := by
  obtain ⟨kr, ir, sr, ar, nr, cr, br, mr, er⟩ := r
  obtain ⟨kd, id, sd, ad, nd, cd, bd, md, ed⟩ := d
  obtain ⟨kv, iv, sv, av, nv, cv, bv, mv, ev⟩ := ev
  have hBW : Below w.heap.size w ((w.alloc (.cells (envV ⟨kr, ir, sr, ar, nr, cr, br, mr, er⟩ ⟨kd, id, sd, ad, nd, cd, bd, md, ed⟩ a vars.length c) 28)).alloc (.cells #[.int .i64 kv, .int .i64 iv, .string sv, .slice av nv cv, .slice bv mv ev] 25)) := (((Below.refl w.heap.size w).alloc (Nat.le_refl _) _).alloc (by simp) _)
  have kE : Blk ((w.alloc (.cells (envV ⟨kr, ir, sr, ar, nr, cr, br, mr, er⟩ ⟨kd, id, sd, ad, nd, cd, bd, md, ed⟩ a vars.length c) 28)).alloc (.cells #[.int .i64 kv, .int .i64 iv, .string sv, .slice av nv cv, .slice bv mv ev] 25)) w.heap.size 28 (envV ⟨kr, ir, sr, ar, nr, cr, br, mr, er⟩ ⟨kd, id, sd, ad, nd, cd, bd, md, ed⟩ a vars.length c) := (Blk.new w _ _).alloc _
  have kV : Blk ((w.alloc (.cells (envV ⟨kr, ir, sr, ar, nr, cr, br, mr, er⟩ ⟨kd, id, sd, ad, nd, cd, bd, md, ed⟩ a vars.length c) 28)).alloc (.cells #[.int .i64 kv, .int .i64 iv, .string sv, .slice av nv cv, .slice bv mv ev] 25)) (w.heap.size + 1) 25 #[.int .i64 kv, .int .i64 iv, .string sv, .slice av nv cv, .slice bv mv ev] := by
    have := Blk.new (w.alloc (.cells (envV ⟨kr, ir, sr, ar, nr, cr, br, mr, er⟩ ⟨kd, id, sd, ad, nd, cd, bd, md, ed⟩ a vars.length c) 28)) 25 #[.int .i64 kv, .int .i64 iv, .string sv, .slice av nv cv, .slice bv mv ev]
    simpa using this
  have cA := hide (alive27_any ((w.alloc (.cells (envV ⟨kr, ir, sr, ar, nr, cr, br, mr, er⟩ ⟨kd, id, sd, ad, nd, cd, bd, md, ed⟩ a vars.length c) 28)).alloc (.cells #[.int .i64 kv, .int .i64 iv, .string sv, .slice av nv cv, .slice bv mv ev] 25)))
  obtain ⟨W, hW⟩ : ∃ W, ((w.alloc (.cells (envV ⟨kr, ir, sr, ar, nr, cr, br, mr, er⟩ ⟨kd, id, sd, ad, nd, cd, bd, md, ed⟩ a vars.length c) 28)).alloc (.cells #[.int .i64 kv, .int .i64 iv, .string sv, .slice av nv cv, .slice bv mv ev] 25)) = W := ⟨_, rfl⟩
  have HW := hide hW
  rw [hW] at cA hBW kE kV
  have hE0 := hide (hE.stepE any_ok hBW)
  have hX0 := hide (hx.stepV any_ok hBW)
  have HS := hide hS; have HSX := hide hsx
  have HB := hide hBW; have KE := hide kE; have KV := hide kV
  have hlen := hS.len
  clear hE hx hBW kE kV hW hS hsx
  go_enter Try.func3, Try.ntmps3
  go_wp2_with fail
  rw [HW.out]
  refine (cA.out).mono ?_
  rintro e w1 ⟨rfl, hb1⟩
  have HB := hide (HB.out.trans (hb1.mono HB.out.size))
  have KE := hide (KE.out.below hb1 KE.out.lt); have KV := hide (KV.out.below hb1 KV.out.lt)
  have E0 := hide (hE0.out.stepE any_ok hb1); have X0 := hide (hX0.out.stepV any_ok hb1)
  clear hE0 hX0 cA HW hb1
  have p0 := KE.out.cell 0
  have p1 := KE.out.cell 1
  have p2 := KE.out.cell 2
  have p3 := KE.out.cell 3
  have p4 := KE.out.cell 4
  have p5 := KE.out.cell 5
  have p6 := KE.out.cell 6
  have p7 := KE.out.cell 7
  have p8 := KE.out.cell 8
  have p9 := KE.out.cell 9
  have p10 := KE.out.cell 10
  simp at p0 p1 p2 p3 p4 p5 p6 p7 p8 p9 p10
  have cO := hide (of_any m anyB any_ok ⟨kr, ir, sr, ar, nr, cr, br, mr, er⟩ ⟨kd, id, sd, ad, nd, cd, bd, md, ed⟩ root dot vars a c w1 E0.out HS.out)
  go_wp2_with (go_at_call 7; refine (cO.out).mono ?_; rintro e w2 ⟨r1, d1, aO, cO', rfl, hE1, hb2⟩; obtain ⟨k6, i6, s6, a6, n6, c6, b6, m6, e6⟩ := r1; obtain ⟨k7, i7, s7, a7, n7, c7, b7, m7, e7⟩ := d1; have HB := hide (HB.out.trans (hb2.mono HB.out.size)); have KE := hide (KE.out.below hb2 KE.out.lt); have KV := hide (KV.out.below hb2 KV.out.lt); have E0 := hide (E0.out.stepE any_ok hb2); have X0 := hide (X0.out.stepV any_ok hb2); have E1 := hide hE1; have HZ2 := hide hb2; clear hE1 hb2; have u0 := KV.out.cell 0; have u1 := KV.out.cell 1; have u2 := KV.out.cell 2; have u3 := KV.out.cell 3; have u4 := KV.out.cell 4; simp at u0 u1 u2 u3 u4; have lV := KV.out.lt; have lE := KE.out.lt; clear p0 p1 p2 p3 p4 p5 p6 p7 p8 p9 p10)
  have lE2 := E1.out.vars
  have HF2 := HB.out.size
  have hz2 := HZ2.out.size
  have hF : ∀ Z : World, w1.heap.size ≤ Z.heap.size → ∀ w' b, freshB Z.heap.size w' b → freshB w1.heap.size w' b := fun Z hZ w' b ⟨q1, q2⟩ => ⟨by omega, q2⟩
  refine (with_any m (freshB w1.heap.size) anyB (freshV_ok _) any_ok ⟨k6, i6, s6, a6, n6, c6, b6, m6, e6⟩ ⟨k7, i7, s7, a7, n7, c7, b7, m7, e7⟩ root dot vars aO cO' nm (VF.val ⟨kv, iv, sv, av, nv, cv, bv, mv, ev⟩) x _ (hF _ (by simp; omega)) (E1.out.stepE (freshV_ok _) ((Below.refl _ _).alloc (Nat.le_refl _) _)) hlen (X0.out.stepV any_ok ((Below.refl _ _).alloc (Nat.le_refl _) _)) HSX.out).mono ?_
  rintro e w4 ⟨aW, cW', rfl, hE4, hb4⟩
  have K9 := hide ((Blk.new w2 32 (envV ⟨k6, i6, s6, a6, n6, c6, b6, m6, e6⟩ ⟨k7, i7, s7, a7, n7, c7, b7, m7, e7⟩ aO vars.length cO')).below hb4 (by simp))
  have hb24 := ((Below.refl w2.heap.size w2).alloc (Nat.le_refl _) _).trans (hb4.mono (by simp))
  have HB := hide (HB.out.trans (hb24.mono HB.out.size)); have KE := hide (KE.out.below hb24 KE.out.lt); have KV := hide (KV.out.below hb24 KV.out.lt); have E0 := hide (E0.out.stepE any_ok hb24); have X0 := hide (X0.out.stepV any_ok hb24); have E1 := hide (E1.out.stepE (freshV_ok _) hb24); have E4 := hide hE4
  have HZ4 := hide hb24
  clear u0 u1 u2 u3 u4 lV lE lE2 hE4 hb4 hb24
  have hfv : ∀ y ∈ vars ++ [(nm, x)], SmallV m y.2 := fun y hy => by
    rcases List.mem_append.1 hy with h | h
    · exact HS.out.each y h
    · obtain rfl : y = (nm, x) := by simpa using h
      exact HSX.out
  have HFV := hide hfv
  clear hfv
  have cA5 := hide (fun (Z : World) (hb : Below w4.heap.size w4 Z) => argN_any m (freshB w1.heap.size) (freshV_ok _) ⟨k6, i6, s6, a6, n6, c6, b6, m6, e6⟩ ⟨k7, i7, s7, a7, n7, c7, b7, m7, e7⟩ root dot (vars ++ [(nm, x)]) aW cW' nm Z (E4.out.stepE (freshV_ok _) hb) (by simp; omega) HS.out.root HFV.out)
  simp only [List.length_append, List.length_singleton] at cA5
  go_wp2_with fail
  refine ((cA5.out _ ((Below.refl _ _).alloc (Nat.le_refl _) _)).mono ?_)
  rintro e w6 ⟨v5, q5, rfl, hF5, hb6⟩
  obtain ⟨k8, i8, s8, a8, n8, c8, b8, m8, e8⟩ := v5
  have hb46 := ((Below.refl w4.heap.size w4).alloc (Nat.le_refl _) _).trans (hb6.mono (by simp))
  have HB := hide (HB.out.trans (hb46.mono HB.out.size))
  have KE := hide (KE.out.below hb46 KE.out.lt)
  have KV := hide (KV.out.below hb46 KV.out.lt)
  have K9 := hide (K9.out.below hb46 K9.out.lt)
  have E0 := hide (E0.out.stepE any_ok hb46)
  have E1 := hide (E1.out.stepE (freshV_ok _) hb46)
  have E4 := hide (E4.out.stepE (freshV_ok _) hb46)
  have X0 := hide (X0.out.stepV any_ok hb46)
  have K10 := hide ((Blk.new w4 32 (envV ⟨k6, i6, s6, a6, n6, c6, b6, m6, e6⟩ ⟨k7, i7, s7, a7, n7, c7, b7, m7, e7⟩ aW (vars.length + 1) cW')).below hb6 (by simp))
  have F5 := hide hF5
  have p0 := K10.out.cell 0
  have p1 := K10.out.cell 1
  have p2 := K10.out.cell 2
  have p3 := K10.out.cell 3
  have p4 := K10.out.cell 4
  have p5 := K10.out.cell 5
  have p6 := K10.out.cell 6
  have p7 := K10.out.cell 7
  have p8 := K10.out.cell 8
  have p9 := K10.out.cell 9
  have p10 := K10.out.cell 10
  simp at p0 p1 p2 p3 p4 p5 p6 p7 p8 p9 p10
  have lK10 := K10.out.lt
  clear hF5 hb6 hb46
  have cA6 := hide (fun (Z : World) (hb : Below w6.heap.size w6 Z) => argN_any m (freshB w1.heap.size) (freshV_ok _) ⟨k6, i6, s6, a6, n6, c6, b6, m6, e6⟩ ⟨k7, i7, s7, a7, n7, c7, b7, m7, e7⟩ root dot (vars ++ [(nm, x)]) aW cW' other Z (E4.out.stepE (freshV_ok _) hb) (by simp; omega) HS.out.root HFV.out)
  simp only [List.length_append, List.length_singleton] at cA6
  go_wp2_with fail
  refine ((cA6.out _ ((Below.refl _ _).alloc (Nat.le_refl _) _)).mono ?_)
  rintro e w8 ⟨v7, q7, rfl, hF7, hb8⟩
  obtain ⟨k9, i9, s9, a9, n9, c9, b9, m9, e9⟩ := v7
  have hb68 := ((Below.refl w6.heap.size w6).alloc (Nat.le_refl _) _).trans (hb8.mono (by simp))
  have HB := hide (HB.out.trans (hb68.mono HB.out.size))
  have KE := hide (KE.out.below hb68 KE.out.lt)
  have KV := hide (KV.out.below hb68 KV.out.lt)
  have K9 := hide (K9.out.below hb68 K9.out.lt)
  have K10 := hide (K10.out.below hb68 K10.out.lt)
  have E0 := hide (E0.out.stepE any_ok hb68)
  have E1 := hide (E1.out.stepE (freshV_ok _) hb68)
  have E4 := hide (E4.out.stepE (freshV_ok _) hb68)
  have F5 := hide (F5.out.stepE (freshV_ok _) hb68)
  have X0 := hide (X0.out.stepV any_ok hb68)
  have K11 := hide ((Blk.new w6 25 #[.int .i64 k8, .int .i64 i8, .string s8, .slice a8 n8 c8, .slice b8 m8 e8]).below hb8 (by simp))
  have F7 := hide hF7
  clear p0 p1 p2 p3 p4 p5 p6 p7 p8 p9 p10 lK10
  have p0 := K9.out.cell 0
  have p1 := K9.out.cell 1
  have p2 := K9.out.cell 2
  have p3 := K9.out.cell 3
  have p4 := K9.out.cell 4
  have p5 := K9.out.cell 5
  have p6 := K9.out.cell 6
  have p7 := K9.out.cell 7
  have p8 := K9.out.cell 8
  have p9 := K9.out.cell 9
  have p10 := K9.out.cell 10
  simp at p0 p1 p2 p3 p4 p5 p6 p7 p8 p9 p10
  have lK9 := K9.out.lt
  clear hF7 hb8 hb68 K10
  have cA8 := hide (fun (Z : World) (hb : Below w8.heap.size w8 Z) => argN_any m (freshB w1.heap.size) (freshV_ok _) ⟨k6, i6, s6, a6, n6, c6, b6, m6, e6⟩ ⟨k7, i7, s7, a7, n7, c7, b7, m7, e7⟩ root dot vars aO cO' other Z (E1.out.stepE (freshV_ok _) hb) (by omega) HS.out.root HS.out.each)
  go_wp2_with fail
  refine ((cA8.out _ ((Below.refl _ _).alloc (Nat.le_refl _) _)).mono ?_)
  rintro e w10 ⟨v9, q9, rfl, hF9, hb10⟩
  obtain ⟨k0, i0, s0, a0, n0, c0, b0, m0, e0⟩ := v9
  have hb80 := ((Below.refl w8.heap.size w8).alloc (Nat.le_refl _) _).trans (hb10.mono (by simp))
  have HB := hide (HB.out.trans (hb80.mono HB.out.size))
  have KE := hide (KE.out.below hb80 KE.out.lt)
  have KV := hide (KV.out.below hb80 KV.out.lt)
  have K9 := hide (K9.out.below hb80 K9.out.lt)
  have K11 := hide (K11.out.below hb80 K11.out.lt)
  have E0 := hide (E0.out.stepE any_ok hb80)
  have E1 := hide (E1.out.stepE (freshV_ok _) hb80)
  have E4 := hide (E4.out.stepE (freshV_ok _) hb80)
  have F5 := hide (F5.out.stepE (freshV_ok _) hb80)
  have F7 := hide (F7.out.stepE (freshV_ok _) hb80)
  have X0 := hide (X0.out.stepV any_ok hb80)
  have K13 := hide ((Blk.new w8 25 #[.int .i64 k9, .int .i64 i9, .string s9, .slice a9 n9 c9, .slice b9 m9 e9]).below hb10 (by simp))
  have F9 := hide hF9
  clear p0 p1 p2 p3 p4 p5 p6 p7 p8 p9 p10 lK9
  have p0 := K9.out.cell 0
  have p1 := K9.out.cell 1
  have p2 := K9.out.cell 2
  have p3 := K9.out.cell 3
  have p4 := K9.out.cell 4
  have p5 := K9.out.cell 5
  have p6 := K9.out.cell 6
  have p7 := K9.out.cell 7
  have p8 := K9.out.cell 8
  have p9 := K9.out.cell 9
  have p10 := K9.out.cell 10
  simp at p0 p1 p2 p3 p4 p5 p6 p7 p8 p9 p10
  have lK9 := K9.out.lt
  have p910 := K9.out.cell 10
  simp at p910
  clear p0 p1 p2 p3 p4 p5 p6 p7 p8 p9 p10 hF9 hb10 hb80
  have o0 := KE.out.cell 0
  have o1 := KE.out.cell 1
  have o2 := KE.out.cell 2
  have o3 := KE.out.cell 3
  have o4 := KE.out.cell 4
  have o5 := KE.out.cell 5
  have o6 := KE.out.cell 6
  have o7 := KE.out.cell 7
  have o8 := KE.out.cell 8
  have o9 := KE.out.cell 9
  have o10 := KE.out.cell 10
  simp at o0 o1 o2 o3 o4 o5 o6 o7 o8 o9 o10
  have lKE := KE.out.lt
  have t0 := K11.out.cell 0
  have t1 := K11.out.cell 1
  have t2 := K11.out.cell 2
  have t3 := K11.out.cell 3
  have t4 := K11.out.cell 4
  simp at t0 t1 t2 t3 t4
  have lK11 := K11.out.lt
  have u0 := KV.out.cell 0
  have u1 := KV.out.cell 1
  have u2 := KV.out.cell 2
  have u3 := KV.out.cell 3
  have u4 := KV.out.cell 4
  simp at u0 u1 u2 u3 u4
  have lKV := KV.out.lt
  have z0 := K13.out.cell 0
  have z1 := K13.out.cell 1
  have z2 := K13.out.cell 2
  have z3 := K13.out.cell 3
  have z4 := K13.out.cell 4
  simp at z0 z1 z2 z3 z4
  have lK13 := K13.out.lt
  have hz10 := ((Below.refl w10.heap.size w10).alloc (Nat.le_refl _) (.cells #[.int .i64 k0, .int .i64 i0, .string s0, .slice a0 n0 c0, .slice b0 m0 e0] 25))
  rcases Classical.em (nm = []) with hn | hn
  · subst hn
    have hF := F5.out
    have hf : foundR [] root (vars ++ [(([] : List UInt8), x)]) = some root := by unfold foundR; rw [if_pos rfl]
    rw [hf] at hF
    obtain ⟨hv5, rfl⟩ := hF
    have cS := hide (fun (Z : World) (hb : Below w10.heap.size w10 Z) => same_any m _ anyB (freshV_ok _) any_ok _ _ root root Z (hv5.stepV (freshV_ok _) hb) (E0.out.root.stepV any_ok hb) HS.out.root)
    have hen : (⟨([] : List UInt8).toArray⟩ : ByteArray).toList.isEmpty = true := by rw [mk_toList]; rfl
    clear hv5 hf
    go_wp2_with (first
      | (go_at_call 10; refine (num27_any _ _).mono ?_; rintro e wn ⟨rfl, rfl⟩)
      | (go_at_call 11; refine (cS.out _ (by first | exact hz10 | exact Below.refl _ _)).mono ?_; rintro e w12 ⟨rfl, hb12⟩; rw [eqV_refl]))
    go_ret
    exact ⟨rfl, HB.out.trans ((below_step hz10 hb12).mono HB.out.size)⟩
  · have hF := F5.out
    rw [foundR_put hn] at hF
    obtain ⟨hv5, rfl⟩ := hF
    have cS := hide (fun (Z : World) (hb : Below w10.heap.size w10 Z) => same_any m _ anyB (freshV_ok _) any_ok _ _ x x Z (hv5.stepV (freshV_ok _) hb) (X0.out.stepV any_ok hb) HSX.out)
    have hen : nm.isEmpty = false := by simp [hn]
    clear hv5
    rcases Classical.em (other = nm) with ho | ho
    · subst ho
      go_wp2_with (go_at_call 10; refine (num27_any _ _).mono ?_; rintro e wn ⟨rfl, rfl⟩)
      refine (cS.out _ hz10).mono ?_
      rintro e w12 ⟨rfl, hb12⟩
      rw [eqV_refl]
      have hbz := below_step hz10 hb12
      have HBZ := hide (HB.out.trans (hbz.mono HB.out.size))
      have J9 := hide (K9.out.below hbz K9.out.lt)
      have JE := hide (KE.out.below hbz KE.out.lt)
      have J13 := hide (K13.out.below hbz K13.out.lt)
      have J15 := hide ((Blk.new w10 25 #[.int .i64 k0, .int .i64 i0, .string s0, .slice a0 n0 c0, .slice b0 m0 e0]).below hb12 (by simp))
      clear p910 o0 o1 o2 o3 o4 o5 o6 o7 o8 o9 o10 t0 t1 t2 t3 t4 u0 u1 u2 u3 u4 z0 z1 z2 z3 z4
      have f10 := J9.out.cell 10
      have g10 := JE.out.cell 10
      simp at f10 g10
      have x0 := J13.out.cell 0
      have x1 := J13.out.cell 1
      have x2 := J13.out.cell 2
      have x3 := J13.out.cell 3
      have x4 := J13.out.cell 4
      simp at x0 x1 x2 x3 x4
      have y0 := J15.out.cell 0
      have y1 := J15.out.cell 1
      have y2 := J15.out.cell 2
      have y3 := J15.out.cell 3
      have y4 := J15.out.cell 4
      simp at y0 y1 y2 y3 y4
      --MARK
      go_wp2_with fail
      go_ret
      exact ⟨rfl, HBZ.out⟩
    · have F7 := F7
      rw [foundR_other ho] at F7
      obtain rfl := sameCode F7.out F9.out
      have cS2 := hide (fun (Z : World) (hb : Below w10.heap.size w10 Z) => sameFound (freshV_ok _) (freshV_ok _) (F7.out.stepE (freshV_ok _) hb) (F9.out.stepE (freshV_ok _) hb) (fun x hx => foundR_small HS.out.root HS.out.each hx))
      have hon : (other == nm) = false := by simp [ho]
      go_wp2_with (go_at_call 10; refine (num27_any _ _).mono ?_; rintro e wn ⟨rfl, rfl⟩)
      refine (cS.out _ hz10).mono ?_
      rintro e w12 ⟨rfl, hb12⟩
      rw [eqV_refl]
      have hbz := below_step hz10 hb12
      have HBZ := hide (HB.out.trans (hbz.mono HB.out.size))
      have J9 := hide (K9.out.below hbz K9.out.lt)
      have JE := hide (KE.out.below hbz KE.out.lt)
      have J13 := hide (K13.out.below hbz K13.out.lt)
      have J15 := hide ((Blk.new w10 25 #[.int .i64 k0, .int .i64 i0, .string s0, .slice a0 n0 c0, .slice b0 m0 e0]).below hb12 (by simp))
      clear p910 o0 o1 o2 o3 o4 o5 o6 o7 o8 o9 o10 t0 t1 t2 t3 t4 u0 u1 u2 u3 u4 z0 z1 z2 z3 z4
      have f10 := J9.out.cell 10
      have g10 := JE.out.cell 10
      simp at f10 g10
      have x0 := J13.out.cell 0
      have x1 := J13.out.cell 1
      have x2 := J13.out.cell 2
      have x3 := J13.out.cell 3
      have x4 := J13.out.cell 4
      simp at x0 x1 x2 x3 x4
      have y0 := J15.out.cell 0
      have y1 := J15.out.cell 1
      have y2 := J15.out.cell 2
      have y3 := J15.out.cell 3
      have y4 := J15.out.cell 4
      simp at y0 y1 y2 y3 y4
      --MARK
      go_wp2_with fail
      --MARK2
      refine (cS2.out _ hbz).mono ?_
      rintro e w14 ⟨rfl, hb14⟩
      go_wp2_with fail
      go_ret
      exact ⟨rfl, HBZ.out.trans (hb14.mono HBZ.out.size)⟩
end Go.Proofs.Ytdnmgpidfjkiaaa
