/-
  ValuesOwn: THE WALK.
-/
import Derived.Test.YtdnmgpidfjkiaaaVField
import Derived.Test.YtdnmgpidfjkiaaaVSpoil
import Derived.Test.YtdnmgpidfjkiaaaLaw04
namespace Go.Proofs.Ytdnmgpidfjkiaaa
open Go.RowKit
set_option linter.unusedVariables false
set_option linter.unusedSimpArgs false

def oldB (N : Nat) : World → Nat → Prop := fun _ b => b < N
theorem old_ok (N : Nat) : ∀ (w w' : World) (b : Nat), Below w.heap.size w w' → b < w.heap.size → oldB N w b → oldB N w' b := fun _ _ _ _ _ h => h
theorem any_ok : ∀ (w w' : World) (b : Nat), Below w.heap.size w w' → b < w.heap.size → anyB w b → anyB w' b := fun _ _ _ _ _ _ => trivial
theorem fresh_ok (N : Nat) : ∀ (w w' : World) (b : Nat), Below w.heap.size w w' → b < w.heap.size → freshB N w b → freshB N w' b := fun _ _ b hb h ⟨h1, cs, t, h2⟩ => ⟨h1, cs, t, (hb.block b h).trans h2⟩
theorem IsV.old {w : World} {n : Nat} {v : Value} {d : VT n} (h : IsV anyB w n v d) : IsV (oldB w.heap.size) w n v d := IsV.on ⟨Nat.le_refl _, fun _ h _ => ⟨rfl, h⟩⟩ n _ _ h
theorem IsV.step {U : World → Nat → Prop} (hU : ∀ w w' b, Below w.heap.size w w' → b < w.heap.size → U w b → U w' b) {w w' : World} {n : Nat} {v : Value} {d : VT n} (h : IsV U w n v d) (hb : Below w.heap.size w w') : IsV U w' n v d := IsV.on (Stays.of_below hb fun b h1 => hU _ _ b hb h1) n _ _ h
theorem IsV.spoilt_old {lo hi N : Nat} {w w' : World} {n : Nat} {v : Value} {d : VT n} (h : IsV (oldB N) w n v d) (hs : Spoilt lo hi w w') (hN : N ≤ lo) : IsV (oldB N) w' n v d :=
  IsV.on ⟨hs.size, fun b h1 h2 => ⟨hs.block b h1 (by have : b < N := h2; omega), h2⟩⟩ n _ _ h
theorem IsV.spoilt_new {lo hi N : Nat} {w w' : World} {n : Nat} {v : Value} {d : VT n} (h : IsV (freshB N) w n v d) (hs : Spoilt lo hi w w') (hN : hi ≤ N) : IsV (freshB N) w' n v d :=
  IsV.on ⟨hs.size, fun b h1 ⟨h2, cs, t, h3⟩ => ⟨hs.block b h1 (by omega), h2, cs, t, (hs.block b h1 (by omega)).trans h3⟩⟩ n _ _ h
theorem TellsV.step {U : World → Nat → Prop} (hU : ∀ w w' b, Below w.heap.size w w' → b < w.heap.size → U w b → U w' b) {w w' : World} {n : Nat} {v : Value} {r : Option (VT n)} (h : TellsV U w n r v) (hb : Below w.heap.size w w') : TellsV U w' n r v := by
  cases r with
  | none => exact h
  | some x => exact IsV.step hU h hb
theorem TellsV.spoilt {lo hi N : Nat} {w w' : World} {n : Nat} {v : Value} {r : Option (VT n)} (h : TellsV (freshB N) w n r v) (hs : Spoilt lo hi w w') (hN : hi ≤ N) : TellsV (freshB N) w' n r v := by
  cases r with
  | none => exact h
  | some x => exact IsV.spoilt_new h hs hN
theorem TellsV.shape {U : World → Nat → Prop} {w : World} {n : Nat} {v : Value} {r : Option (VT n)} (h : TellsV U w n r v) : ∃ e : VF, v = e.val := by
  cases r with
  | none => exact ⟨⟨0, 0, ⟨#[]⟩, none, 0, 0, none, 0, 0⟩, h⟩
  | some x => exact IsV.shape h
theorem zero_is (U : World → Nat → Prop) (w : World) : IsV U w 1 zeroV (⟨0, 0, [], [], []⟩ : VN (VT 0)) :=
  ⟨none, 0, none, 0, rfl, fun j x h => by simp at h, fun j x h => by simp at h⟩
theorem zero_small : SmallV 1 (⟨0, 0, [], [], []⟩ : VN (VT 0)) :=
  ⟨Nat.zero_le _, Nat.zero_le _, Nat.zero_le _, fun x h => by simp at h, fun x h => by simp at h⟩
/-- Two that tell one are the same. -/
theorem sameTells {U1 U2 : World → Nat → Prop} (hU1 : ∀ w w' b, Below w.heap.size w w' → b < w.heap.size → U1 w b → U1 w' b) (hU2 : ∀ w w' b, Below w.heap.size w w' → b < w.heap.size → U2 w b → U2 w' b) {w : World} {n : Nat} {v1 v2 : Value} {r : Option (VT n)} (h1 : TellsV U1 w n r v1) (h2 : TellsV U2 w n r v2) (hs : ∀ x, r = some x → SmallV n x) :
    Calls Try.prog 11 #[v1, v2] w fun e w' => e = .returned (.bool true) ∧ Below w.heap.size w w' := by
  cases r with
  | none =>
    obtain rfl : v1 = zeroV := h1
    obtain rfl : v2 = zeroV := h2
    have := same_any 1 U1 U2 hU1 hU2 zeroV zeroV (⟨0, 0, [], [], []⟩ : VN (VT 0)) (⟨0, 0, [], [], []⟩ : VN (VT 0)) w (zero_is _ _) (zero_is _ _) zero_small
    have he : eqV 1 (⟨0, 0, [], [], []⟩ : VN (VT 0)) (⟨0, 0, [], [], []⟩ : VN (VT 0)) = true := eqV_refl 1 _
    rw [he] at this
    exact this
  | some x =>
    have := same_any n U1 U2 hU1 hU2 v1 v2 x x w h1 h2 (hs x rfl)
    rw [eqV_refl] at this
    exact this
theorem field_small {n : Nat} {d : VN (VT n)} (h : SmallV (n + 1) d) (name : List UInt8) : ∀ x, (fieldR d name).1 = some x → SmallV n x := by
  intro x hx
  obtain ⟨_, _, _, _, h5⟩ := h
  unfold fieldR at hx
  split at hx
  · split at hx
    · rename_i y hy
      injection hx with hx
      subst hx
      obtain ⟨j, _, hj⟩ := Option.bind_eq_some_iff.1 hy
      exact h5 _ (List.mem_of_getElem? hj)
    · cases hx
  · cases hx
theorem index_small {n : Nat} {d : VN (VT n)} (h : SmallV (n + 1) d) (q : Int) : ∀ x, (indexR d q).1 = some x → SmallV n x := by
  intro x hx
  obtain ⟨_, _, _, _, h5⟩ := h
  unfold indexR at hx
  split at hx
  · split at hx
    · cases hx
    · split at hx
      · rename_i y hy
        injection hx with hx
        subst hx
        exact h5 _ (List.mem_of_getElem? hy)
      · cases hx
  · cases hx
theorem Blk.spoilt {lo hi b : Nat} {w w' : World} {t : TypeId} {cs : Array Value} (h : Blk w b t cs) (hs : Spoilt lo hi w w') (hb : b < lo ∨ hi ≤ b) : Blk w' b t cs := (hs.block b h.lt (by omega)).trans h
theorem num04 (k : Int) (w : World) : Calls Try.prog 20 #[.int .i64 k] w fun e w' => e = .returned (.int .i64 k) ∧ w = w' := by
  go_enter Try.func20, Try.ntmps20
  go_wp2
  go_ret
  exact ⟨rfl, rfl⟩
abbrev boxV (e : VF) : Array Value := #[.int .i64 e.k, .int .i64 e.i, .string e.s, .slice e.a e.n e.c, .slice e.a2 e.n2 e.c2]
structure CellsV (w : World) (b : Nat) (e : VF) : Prop where
  c0 : w.cell? ⟨b, 0, none⟩ = some (.int .i64 e.k)
  c1 : w.cell? ⟨b, 1, none⟩ = some (.int .i64 e.i)
  c2 : w.cell? ⟨b, 2, none⟩ = some (.string e.s)
  c3 : w.cell? ⟨b, 3, none⟩ = some (.slice e.a e.n e.c)
  c4 : w.cell? ⟨b, 4, none⟩ = some (.slice e.a2 e.n2 e.c2)
theorem Blk.five {w : World} {b : Nat} {e : VF} (h : Blk w b 25 (boxV e)) : CellsV w b e :=
  ⟨(h.cell 0).trans rfl, (h.cell 1).trans rfl, (h.cell 2).trans rfl, (h.cell 3).trans rfl, (h.cell 4).trans rfl⟩
set_option maxHeartbeats 4000000 in
set_option maxRecDepth 100000 in
theorem valuesOwn_tree (m : Nat) (d : VN (VT m)) (e0 : VF) (name : List UInt8) (q : Int) (hq0 : -9223372036854775808 ≤ q) (hq1 : q ≤ 9223372036854775807) (w : World) (h : IsV anyB w (m + 1) e0.val d) (hsm : SmallV (m + 1) d) :
    Calls Try.prog 4 #[e0.val, .string ⟨name.toArray⟩, .int .i64 q] w fun e w' => e = .returned (.bool true) ∧ Below w.heap.size w w' := by
  have hV := hide h.old
  have hS := hide hsm
  have hN : ∃ N, w.heap.size = N := ⟨_, rfl⟩
  obtain ⟨NM, hNM⟩ : ∃ x : ByteArray, (⟨name.toArray⟩ : ByteArray) = x := ⟨_, rfl⟩
  have HNM := hide hNM
  have K3 := hide (Blk.new w 25 (boxV e0))
  have B0 := hide ((Below.refl w.heap.size w).alloc (Nat.le_refl _) (.cells (boxV e0) 25))
  rw [hNM]
  clear hsm h hN hNM
  obtain ⟨k0, i0, s0, a0, n0, c0, a1, n1, c1⟩ := e0
  go_enter Try.func4, Try.ntmps4
  go_wp2_with fail
  refine (alive04 _).mono ?_
  rintro e w1 ⟨rfl, hb1⟩
  have K31 := hide (K3.out.below hb1 K3.out.lt)
  have B1 := hide (B0.out.trans (hb1.mono B0.out.size))
  have V1 := hide (hV.out.step (old_ok _) B1.out)
  have cI := hide (own_dis (m + 1) _ (old_ok _) _ d w1 V1.out hS.out)
  have hdum : True := trivial
  have V := V1; have K3 := K31; have B := B1
  have hlo := B1.out.size
  have qk3 := K3.out.lt
  obtain ⟨k30, k31, k32, k33, k34⟩ := K3.out.five
  clear hb1
  go_wp2_with fail
  refine (cI.out).mono ?_
  rintro e w2 ⟨vi, rfl, hD, hb2⟩
  obtain ⟨ei, rfl⟩ := hD.shape
  obtain ⟨ki, ii, si, ai, ni, ci, bi, mi, di⟩ := ei
  clear k30 k31 k32 k33 k34
  have K3 := hide (K3.out.below hb2 K3.out.lt)
  have V := hide (V.out.step (old_ok _) hb2)
  have B := hide (B.out.trans (hb2.mono B.out.size))
  have hhi := hb2.size
  have D := hide hD
  have I := hide (IsD.fresh _ _ _ _ _ _ (Nat.le_refl _) hD)
  clear hD hb2
  have K3 := hide (K3.out.alloc (.cells (boxV ⟨ki, ii, si, ai, ni, ci, bi, mi, di⟩) 25))
  have hal := hide ((Below.refl w2.heap.size w2).alloc (Nat.le_refl _) (.cells (boxV ⟨ki, ii, si, ai, ni, ci, bi, mi, di⟩) 25))
  have V := hide (V.out.step (old_ok _) hal.out)
  have I := hide (I.out.step (fresh_ok _) hal.out)
  have B := hide (B.out.trans (hal.out.mono B.out.size))
  have K7 := hide (Blk.new w2 25 (boxV ⟨ki, ii, si, ai, ni, ci, bi, mi, di⟩))
  have D := hide (IsD.on hal.out.size _ _ _ _ _ _ _ (Nat.le_refl _) (Nat.le_refl _) (fun b _ h => hal.out.block b h) D.out)
  have cC := hide (clone_any (m + 1) _ (fresh_ok _) _ d _ I.out hS.out)
  have qk7 := K7.out.lt
  obtain ⟨k70, k71, k72, k73, k74⟩ := K7.out.five
  go_wp2_with fail
  refine (cC.out).mono ?_
  rintro e w3 ⟨va, rfl, hA, hb3⟩
  obtain ⟨ea, rfl⟩ := hA.shape
  obtain ⟨ka, ia, sa, aa, na, ca, ba, ma, da⟩ := ea
  clear k70 k71 k72 k73 k74
  have K3 := hide (K3.out.below hb3 K3.out.lt)
  have K7 := hide (K7.out.below hb3 K7.out.lt)
  have V := hide (V.out.step (old_ok _) hb3)
  have I := hide (I.out.step (fresh_ok _) hb3)
  have B := hide (B.out.trans (hb3.mono B.out.size))
  have D := hide (IsD.on hb3.size _ _ _ _ _ _ _ (Nat.le_refl _) (Nat.le_refl _) (fun b _ h => hb3.block b (by simp; omega)) D.out)
  have AA := hide hA
  have z3 := hb3.size
  simp only [World.size_alloc] at z3
  clear hA hb3
  have K3 := hide (K3.out.alloc (.cells (boxV ⟨ka, ia, sa, aa, na, ca, ba, ma, da⟩) 25))
  have K7 := hide (K7.out.alloc (.cells (boxV ⟨ka, ia, sa, aa, na, ca, ba, ma, da⟩) 25))
  have hal := hide ((Below.refl w3.heap.size w3).alloc (Nat.le_refl _) (.cells (boxV ⟨ka, ia, sa, aa, na, ca, ba, ma, da⟩) 25))
  have V := hide (V.out.step (old_ok _) hal.out)
  have I := hide (I.out.step (fresh_ok _) hal.out)
  have AA := hide (AA.out.step (fresh_ok _) hal.out)
  have B := hide (B.out.trans (hal.out.mono B.out.size))
  have K8 := hide (Blk.new w3 25 (boxV ⟨ka, ia, sa, aa, na, ca, ba, ma, da⟩))
  have D := hide (IsD.on hal.out.size _ _ _ _ _ _ _ (Nat.le_refl _) (Nat.le_refl _) (fun b _ h => hal.out.block b (by omega)) D.out)
  have cF := hide (field_any m _ (fresh_ok _) _ d name _ I.out hS.out)
  rw [HNM.out] at cF
  have qk7 := K7.out.lt
  obtain ⟨k70, k71, k72, k73, k74⟩ := K7.out.five
  obtain ⟨ef, hef⟩ : ∃ x, (fieldR d name).2 = x := ⟨_, rfl⟩
  rw [hef] at cF
  have hef := hide hef
  go_wp2_with fail
  refine (cF.out).mono ?_
  rintro e w4 ⟨vb, rfl, hT, hb4⟩
  obtain ⟨eb, rfl⟩ := hT.shape
  obtain ⟨kb, ib, sb, ab, nb, cb, bb, mb, db⟩ := eb
  clear k70 k71 k72 k73 k74
  have K3 := hide (K3.out.below hb4 K3.out.lt)
  have K7 := hide (K7.out.below hb4 K7.out.lt)
  have K8 := hide (K8.out.below hb4 K8.out.lt)
  have V := hide (V.out.step (old_ok _) hb4)
  have I := hide (I.out.step (fresh_ok _) hb4)
  have AA := hide (AA.out.step (fresh_ok _) hb4)
  have B := hide (B.out.trans (hb4.mono B.out.size))
  have D := hide (IsD.on hb4.size _ _ _ _ _ _ _ (Nat.le_refl _) (Nat.le_refl _) (fun b _ h => hb4.block b (by simp; omega)) D.out)
  have T := hide hT
  have z4 := hb4.size
  simp only [World.size_alloc] at z4
  clear hT hb4
  have K3 := hide (K3.out.alloc (.cells (boxV ⟨kb, ib, sb, ab, nb, cb, bb, mb, db⟩) 25))
  have K7 := hide (K7.out.alloc (.cells (boxV ⟨kb, ib, sb, ab, nb, cb, bb, mb, db⟩) 25))
  have K8 := hide (K8.out.alloc (.cells (boxV ⟨kb, ib, sb, ab, nb, cb, bb, mb, db⟩) 25))
  have hal := hide ((Below.refl w4.heap.size w4).alloc (Nat.le_refl _) (.cells (boxV ⟨kb, ib, sb, ab, nb, cb, bb, mb, db⟩) 25))
  have V := hide (V.out.step (old_ok _) hal.out)
  have I := hide (I.out.step (fresh_ok _) hal.out)
  have AA := hide (AA.out.step (fresh_ok _) hal.out)
  have T := hide (T.out.step (fresh_ok _) hal.out)
  have B := hide (B.out.trans (hal.out.mono B.out.size))
  have K9 := hide (Blk.new w4 25 (boxV ⟨kb, ib, sb, ab, nb, cb, bb, mb, db⟩))
  have D := hide (IsD.on hal.out.size _ _ _ _ _ _ _ (Nat.le_refl _) (Nat.le_refl _) (fun b _ h => hal.out.block b (by omega)) D.out)
  have cX := hide (index_any m _ (fresh_ok _) _ d q hq0 hq1 _ I.out hS.out)
  have qk7 := K7.out.lt
  obtain ⟨k70, k71, k72, k73, k74⟩ := K7.out.five
  obtain ⟨ex, hex⟩ : ∃ x, (indexR d q).2 = x := ⟨_, rfl⟩
  rw [hex] at cX
  have hex := hide hex
  go_wp2_with fail
  refine (cX.out).mono ?_
  rintro e w5 ⟨vc, rfl, hT2, hb5⟩
  obtain ⟨ec, rfl⟩ := hT2.shape
  obtain ⟨kc, ic, sc, ac, nc, cc, bc, mc, dc⟩ := ec
  clear k70 k71 k72 k73 k74
  have K3 := hide (K3.out.below hb5 K3.out.lt)
  have K7 := hide (K7.out.below hb5 K7.out.lt)
  have K8 := hide (K8.out.below hb5 K8.out.lt)
  have K9 := hide (K9.out.below hb5 K9.out.lt)
  have V := hide (V.out.step (old_ok _) hb5)
  have I := hide (I.out.step (fresh_ok _) hb5)
  have AA := hide (AA.out.step (fresh_ok _) hb5)
  have T := hide (T.out.step (fresh_ok _) hb5)
  have B := hide (B.out.trans (hb5.mono B.out.size))
  have D := hide (IsD.on hb5.size _ _ _ _ _ _ _ (Nat.le_refl _) (Nat.le_refl _) (fun b _ h => hb5.block b (by simp; omega)) D.out)
  have T2 := hide hT2
  have z5 := hb5.size
  simp only [World.size_alloc] at z5
  clear hT2 hb5
  have K3 := hide (K3.out.alloc (.cells (boxV ⟨kc, ic, sc, ac, nc, cc, bc, mc, dc⟩) 25))
  have K7 := hide (K7.out.alloc (.cells (boxV ⟨kc, ic, sc, ac, nc, cc, bc, mc, dc⟩) 25))
  have K8 := hide (K8.out.alloc (.cells (boxV ⟨kc, ic, sc, ac, nc, cc, bc, mc, dc⟩) 25))
  have K9 := hide (K9.out.alloc (.cells (boxV ⟨kc, ic, sc, ac, nc, cc, bc, mc, dc⟩) 25))
  have hal := hide ((Below.refl w5.heap.size w5).alloc (Nat.le_refl _) (.cells (boxV ⟨kc, ic, sc, ac, nc, cc, bc, mc, dc⟩) 25))
  have V := hide (V.out.step (old_ok _) hal.out)
  have I := hide (I.out.step (fresh_ok _) hal.out)
  have AA := hide (AA.out.step (fresh_ok _) hal.out)
  have T := hide (T.out.step (fresh_ok _) hal.out)
  have T2 := hide (T2.out.step (fresh_ok _) hal.out)
  have B := hide (B.out.trans (hal.out.mono B.out.size))
  have K11 := hide (Blk.new w5 25 (boxV ⟨kc, ic, sc, ac, nc, cc, bc, mc, dc⟩))
  have D := hide (IsD.on hal.out.size _ _ _ _ _ _ _ (Nat.le_refl _) (Nat.le_refl _) (fun b _ h => hal.out.block b (by omega)) D.out)
  have cS := hide (spoil_any (m + 1) _ _ _ d _ 20 (by omega) (by omega) D.out (by simp; omega) hS.out)
  have qk7 := K7.out.lt
  obtain ⟨k70, k71, k72, k73, k74⟩ := K7.out.five
  go_wp2_with fail
  refine (cS.out).mono ?_
  rintro e w6 ⟨rfl, hsp⟩
  clear k70 k71 k72 k73 k74
  have K3 := hide (K3.out.spoilt hsp (.inl (by omega)))
  have K8 := hide (K8.out.spoilt hsp (.inr (by omega)))
  have K9 := hide (K9.out.spoilt hsp (.inr (by omega)))
  have K11 := hide (K11.out.spoilt hsp (.inr (by omega)))
  have V := hide (V.out.spoilt_old hsp (by omega))
  have AA := hide (AA.out.spoilt_new hsp (by simp))
  have T := hide (T.out.spoilt hsp (by simp; omega))
  have T2 := hide (T2.out.spoilt hsp (by simp; omega))
  have B := hide (hsp.below B.out (by omega) (by simp; omega))
  have z6 := hsp.size
  simp only [World.size_alloc] at z6
  clear hsp
  have cG := hide (refField_any m _ (old_ok _) _ d name _ V.out hS.out)
  rw [HNM.out, hef.out] at cG
  have qk3 := K3.out.lt
  obtain ⟨k30, k31, k32, k33, k34⟩ := K3.out.five
  go_wp2_with fail
  refine (cG.out).mono ?_
  rintro e w7 ⟨vx, rfl, hT3, hb7⟩
  obtain ⟨ey, rfl⟩ := hT3.shape
  obtain ⟨kx, ix, sx, ax, nx, cx, bx, mx, dx⟩ := ey
  clear k30 k31 k32 k33 k34
  have K3 := hide (K3.out.below hb7 K3.out.lt)
  have K8 := hide (K8.out.below hb7 K8.out.lt)
  have K9 := hide (K9.out.below hb7 K9.out.lt)
  have K11 := hide (K11.out.below hb7 K11.out.lt)
  have V := hide (V.out.step (old_ok _) hb7)
  have AA := hide (AA.out.step (fresh_ok _) hb7)
  have T := hide (T.out.step (fresh_ok _) hb7)
  have T2 := hide (T2.out.step (fresh_ok _) hb7)
  have B := hide (B.out.trans (hb7.mono B.out.size))
  have T3 := hide hT3
  clear hT3 hb7
  have K3 := hide (K3.out.alloc (.cells (boxV ⟨kx, ix, sx, ax, nx, cx, bx, mx, dx⟩) 25))
  have K8 := hide (K8.out.alloc (.cells (boxV ⟨kx, ix, sx, ax, nx, cx, bx, mx, dx⟩) 25))
  have K9 := hide (K9.out.alloc (.cells (boxV ⟨kx, ix, sx, ax, nx, cx, bx, mx, dx⟩) 25))
  have K11 := hide (K11.out.alloc (.cells (boxV ⟨kx, ix, sx, ax, nx, cx, bx, mx, dx⟩) 25))
  have hal := hide ((Below.refl w7.heap.size w7).alloc (Nat.le_refl _) (.cells (boxV ⟨kx, ix, sx, ax, nx, cx, bx, mx, dx⟩) 25))
  have V := hide (V.out.step (old_ok _) hal.out)
  have AA := hide (AA.out.step (fresh_ok _) hal.out)
  have T := hide (T.out.step (fresh_ok _) hal.out)
  have T2 := hide (T2.out.step (fresh_ok _) hal.out)
  have T3 := hide (T3.out.step (old_ok _) hal.out)
  have B := hide (B.out.trans (hal.out.mono B.out.size))
  have K13 := hide (Blk.new w7 25 (boxV ⟨kx, ix, sx, ax, nx, cx, bx, mx, dx⟩))
  have cJ := hide (refIndex_any m _ (old_ok _) _ d q hq0 hq1 _ V.out hS.out)
  rw [hex.out] at cJ
  have qk3 := K3.out.lt
  obtain ⟨k30, k31, k32, k33, k34⟩ := K3.out.five
  go_wp2_with fail
  refine (cJ.out).mono ?_
  rintro e w8 ⟨vy, rfl, hT4, hb8⟩
  obtain ⟨ez, rfl⟩ := hT4.shape
  obtain ⟨ky, iy, sy, ay, ny, cy, b_y, my, dy⟩ := ez
  clear k30 k31 k32 k33 k34
  have K3 := hide (K3.out.below hb8 K3.out.lt)
  have K8 := hide (K8.out.below hb8 K8.out.lt)
  have K9 := hide (K9.out.below hb8 K9.out.lt)
  have K11 := hide (K11.out.below hb8 K11.out.lt)
  have K13 := hide (K13.out.below hb8 K13.out.lt)
  have V := hide (V.out.step (old_ok _) hb8)
  have AA := hide (AA.out.step (fresh_ok _) hb8)
  have T := hide (T.out.step (fresh_ok _) hb8)
  have T2 := hide (T2.out.step (fresh_ok _) hb8)
  have T3 := hide (T3.out.step (old_ok _) hb8)
  have B := hide (B.out.trans (hb8.mono B.out.size))
  have T4 := hide hT4
  clear hT4 hb8
  have K3 := hide (K3.out.alloc (.cells (boxV ⟨ky, iy, sy, ay, ny, cy, b_y, my, dy⟩) 25))
  have K8 := hide (K8.out.alloc (.cells (boxV ⟨ky, iy, sy, ay, ny, cy, b_y, my, dy⟩) 25))
  have K9 := hide (K9.out.alloc (.cells (boxV ⟨ky, iy, sy, ay, ny, cy, b_y, my, dy⟩) 25))
  have K11 := hide (K11.out.alloc (.cells (boxV ⟨ky, iy, sy, ay, ny, cy, b_y, my, dy⟩) 25))
  have K13 := hide (K13.out.alloc (.cells (boxV ⟨ky, iy, sy, ay, ny, cy, b_y, my, dy⟩) 25))
  have hal := hide ((Below.refl w8.heap.size w8).alloc (Nat.le_refl _) (.cells (boxV ⟨ky, iy, sy, ay, ny, cy, b_y, my, dy⟩) 25))
  have V := hide (V.out.step (old_ok _) hal.out)
  have AA := hide (AA.out.step (fresh_ok _) hal.out)
  have T := hide (T.out.step (fresh_ok _) hal.out)
  have T2 := hide (T2.out.step (fresh_ok _) hal.out)
  have T3 := hide (T3.out.step (old_ok _) hal.out)
  have T4 := hide (T4.out.step (old_ok _) hal.out)
  have B := hide (B.out.trans (hal.out.mono B.out.size))
  have K15 := hide (Blk.new w8 25 (boxV ⟨ky, iy, sy, ay, ny, cy, b_y, my, dy⟩))
  have cS1 := hide (same_any (m + 1) _ _ (fresh_ok _) (old_ok _) _ _ d d _ AA.out V.out hS.out)
  rw [eqV_refl (m + 1) d] at cS1
  have qk8 := K8.out.lt
  obtain ⟨k80, k81, k82, k83, k84⟩ := K8.out.five
  have qk3 := K3.out.lt
  obtain ⟨k30, k31, k32, k33, k34⟩ := K3.out.five
  go_wp2_with fail
  refine (cS1.out).mono ?_
  rintro e w9 ⟨rfl, hb9⟩
  clear k80 k81 k82 k83 k84 k30 k31 k32 k33 k34
  have K3 := hide (K3.out.below hb9 K3.out.lt)
  have K8 := hide (K8.out.below hb9 K8.out.lt)
  have K9 := hide (K9.out.below hb9 K9.out.lt)
  have K11 := hide (K11.out.below hb9 K11.out.lt)
  have K13 := hide (K13.out.below hb9 K13.out.lt)
  have K15 := hide (K15.out.below hb9 K15.out.lt)
  have V := hide (V.out.step (old_ok _) hb9)
  have AA := hide (AA.out.step (fresh_ok _) hb9)
  have T := hide (T.out.step (fresh_ok _) hb9)
  have T2 := hide (T2.out.step (fresh_ok _) hb9)
  have T3 := hide (T3.out.step (old_ok _) hb9)
  have T4 := hide (T4.out.step (old_ok _) hb9)
  have B := hide (B.out.trans (hb9.mono B.out.size))
  have cS2 := hide (sameTells (fresh_ok _) (old_ok _) T.out T3.out (field_small hS.out name))
  have qk9 := K9.out.lt
  obtain ⟨k90, k91, k92, k93, k94⟩ := K9.out.five
  have qk13 := K13.out.lt
  obtain ⟨k130, k131, k132, k133, k134⟩ := K13.out.five
  go_wp2_with (go_at_call 20; refine (num04 _ _).mono ?_; rintro e wn ⟨rfl, rfl⟩)
  refine (cS2.out).mono ?_
  rintro e w10 ⟨rfl, hb10⟩
  clear k90 k91 k92 k93 k94 k130 k131 k132 k133 k134
  have K3 := hide (K3.out.below hb10 K3.out.lt)
  have K8 := hide (K8.out.below hb10 K8.out.lt)
  have K9 := hide (K9.out.below hb10 K9.out.lt)
  have K11 := hide (K11.out.below hb10 K11.out.lt)
  have K13 := hide (K13.out.below hb10 K13.out.lt)
  have K15 := hide (K15.out.below hb10 K15.out.lt)
  have V := hide (V.out.step (old_ok _) hb10)
  have AA := hide (AA.out.step (fresh_ok _) hb10)
  have T := hide (T.out.step (fresh_ok _) hb10)
  have T2 := hide (T2.out.step (fresh_ok _) hb10)
  have T3 := hide (T3.out.step (old_ok _) hb10)
  have T4 := hide (T4.out.step (old_ok _) hb10)
  have B := hide (B.out.trans (hb10.mono B.out.size))
  have cS3 := hide (sameTells (fresh_ok _) (old_ok _) T2.out T4.out (index_small hS.out q))
  have qk11 := K11.out.lt
  obtain ⟨k110, k111, k112, k113, k114⟩ := K11.out.five
  have qk15 := K15.out.lt
  obtain ⟨k150, k151, k152, k153, k154⟩ := K15.out.five
  go_wp2_with (go_at_call 20; refine (num04 _ _).mono ?_; rintro e wn ⟨rfl, rfl⟩)
  refine (cS3.out).mono ?_
  rintro e w11 ⟨rfl, hb11⟩
  go_wp2_with fail
  go_ret
  exact ⟨by first | rfl | simp, B.out.trans (hb11.mono B.out.size)⟩
theorem valuesOwn_walk (a0 : Value) (a1 : ByteArray) (s1 : a1.size ≤ 140737488351232) (a2 : Int) (lo2 : -9223372036854775808 ≤ a2) (hi2 : a2 ≤ 9223372036854775807) (w : World) (n0 : Nat) (t0 : VT n0) (h0 : IsV anyB w n0 a0 t0) (z0 : SmallV n0 t0) :
    Calls Try.prog 4 #[a0, .string a1, .int .i64 a2] w fun e w' => e = .returned (.bool true) ∧ Below w.heap.size w w' := by
  cases n0 with
  | zero => exact h0.elim
  | succ m =>
    obtain ⟨e0, rfl⟩ := h0.shape
    have h1 : a1 = ⟨a1.data.toList.toArray⟩ := by cases a1; simp
    rw [h1]
    exact valuesOwn_tree m t0 e0 a1.data.toList a2 lo2 hi2 w h0 z0
end Go.Proofs.Ytdnmgpidfjkiaaa
