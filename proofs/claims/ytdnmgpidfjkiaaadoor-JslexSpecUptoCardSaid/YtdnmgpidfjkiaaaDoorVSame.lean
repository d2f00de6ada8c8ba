/-
  The page's Same: are two values one?
-/
import Derived.Test.YtdnmgpidfjkiaaaDoorM2
import Derived.Test.YtdnmgpidfjkiaaaDoorM6
import Derived.Test.YtdnmgpidfjkiaaaDoorBytes
import Derived.Test.YtdnmgpidfjkiaaaDoorProg
import Derived.WalkKit
namespace Go.Proofs.YtdnmgpidfjkiaaaDoor
open Go.RowKit
set_option linter.unusedVariables false
set_option linter.unusedSimpArgs false

theorem eqV_mk {n : Nat} (k1 i1 : Int) (s1 : List UInt8) (l1 : List (VT n)) (t1 : List (List UInt8)) (k2 i2 : Int) (s2 : List UInt8) (l2 : List (VT n)) (t2 : List (List UInt8)) :
    eqV (n + 1) (⟨k1, i1, s1, l1, t1⟩ : VN (VT n)) (⟨k2, i2, s2, l2, t2⟩ : VN (VT n)) = (decide (k1 = k2) && decide (i1 = i2) && (s1 == s2) && (l1.length == l2.length) && (t1 == t2) && (l1.zip l2).all fun p => eqV n p.1 p.2) := rfl
theorem toL_eq (s t : List UInt8) : ((⟨s.toArray⟩ : ByteArray).toList == (⟨t.toArray⟩ : ByteArray).toList) = (s == t) := by
  rw [ByteArray.toList_eq, ByteArray.toList_eq]
set_option maxHeartbeats 4000000 in
set_option maxRecDepth 100000 in
theorem same_any : ∀ (n : Nat) (U1 U2 : World → Nat → Prop) (hU1 : ∀ w w' b, Below w.heap.size w w' → b < w.heap.size → U1 w b → U1 w' b) (hU2 : ∀ w w' b, Below w.heap.size w w' → b < w.heap.size → U2 w b → U2 w' b) (v1 v2 : Value) (d1 d2 : VT n) (w : World), IsV U1 w n v1 d1 → IsV U2 w n v2 d2 → SmallV n d1 →
    Calls Tryd.prog 17 #[v1, v2] w fun e w' => e = .returned (.bool (eqV n d1 d2)) ∧ Below w.heap.size w w' := by
  intro n
  induction n with
  | zero => intro U1 U2 _ _ v1 v2 d1 d2 w h; exact h.elim
  | succ n ih =>
    intro U1 U2 hU1 hU2 v1 v2 d1 d2 w h1 h2 hsm
    obtain ⟨k1, i1, s1, l1, t1⟩ := d1
    obtain ⟨k2, i2, s2, l2, t2⟩ := d2
    obtain ⟨a1, c1, b1, e1, rfl, hS1, hL1⟩ := h1.parts
    obtain ⟨a2, c2, b2, e2, rfl, hS2, hL2⟩ := h2.parts
    obtain ⟨_, hz2, hz3, _, hz5⟩ := hsm
    have hz2 : l1.length * 80 ≤ 140737488351232 := hz2
    have hz3 : t1.length * 16 ≤ 140737488351232 := hz3
    have hz5 : ∀ x ∈ l1, SmallV n x := hz5
    simp only at hS1 hL1 hS2 hL2 ⊢
    rw [eqV_mk]
    clear h1 h2
    have hxx := toL_eq s1 s2
    obtain ⟨x1, hx1⟩ : ∃ x : ByteArray, (⟨s1.toArray⟩ : ByteArray) = x := ⟨_, rfl⟩
    obtain ⟨x2, hx2⟩ : ∃ x : ByteArray, (⟨s2.toArray⟩ : ByteArray) = x := ⟨_, rfl⟩
    rw [hx1, hx2] at hxx
    rw [hx1, hx2]
    clear hx1 hx2
    have hB0 : ∀ o1 o2, Below w.heap.size w ((w.alloc o1).alloc o2) := fun o1 o2 => ((Below.refl _ _).alloc (Nat.le_refl _) _).alloc (by simp) _
    have HB0 := hide hB0
    clear hB0
    by_cases gk : k1 = k2
    rotate_left
    · have q : (k1 != k2) = true := by simpa using gk
      have hr : (decide (k1 = k2)) = false := by simpa using gk
      rw [hr]
      simp only [Bool.false_and]
      clear hS1 hL1 hS2 hL2 hxx hr gk hz5
      go_enter Tryd.func17, Tryd.ntmps17
      go_wp2_with fail
      go_ret
      exact ⟨rfl, HB0.out _ _⟩
    subst gk
    by_cases gi : i1 = i2
    rotate_left
    · have q : (i1 != i2) = true := by simpa using gi
      have hr : (decide (i1 = i2)) = false := by simpa using gi
      rw [hr]
      simp only [Bool.false_and, Bool.and_false]
      clear hS1 hL1 hS2 hL2 hxx hr gi hz5
      go_enter Tryd.func17, Tryd.ntmps17
      go_wp2_with fail
      go_ret
      exact ⟨rfl, HB0.out _ _⟩
    subst gi
    rcases Bool.eq_false_or_eq_true (s1 == s2) with gs | gs
    rotate_left
    · rw [gs] at hxx ⊢
      simp only [Bool.false_and, Bool.and_false]
      clear hS1 hL1 hS2 hL2 hz5
      go_enter Tryd.func17, Tryd.ntmps17
      go_wp2_with fail
      go_ret
      exact ⟨rfl, HB0.out _ _⟩
    rw [gs] at hxx ⊢
    by_cases gl : l1.length = l2.length
    rotate_left
    · have q : ((l1.length : Int) != (l2.length : Int)) = true := by simp; omega
      have hr : (l1.length == l2.length) = false := by simpa using gl
      rw [hr]
      simp only [Bool.false_and, Bool.and_false]
      clear hS1 hL1 hS2 hL2 hr gl hz5
      go_enter Tryd.func17, Tryd.ntmps17
      go_wp2_with fail
      go_ret
      exact ⟨rfl, HB0.out _ _⟩
    by_cases gt : t1.length = t2.length
    rotate_left
    · have q : ((t1.length : Int) != (t2.length : Int)) = true := by simp; omega
      have hr : (t1 == t2) = false := by
        rw [beq_eq_false_iff_ne]
        intro e; exact gt (congrArg _ e)
      rw [hr]
      simp only [Bool.false_and, Bool.and_false]
      have gl' : ((l1.length : Int) != (l2.length : Int)) = false := by simp; omega
      clear hS1 hL1 hS2 hL2 hr gt gl hz5
      go_enter Tryd.func17, Tryd.ntmps17
      go_wp2_with fail
      go_ret
      exact ⟨rfl, HB0.out _ _⟩
    have hR : Hid ((decide (k1 = k1) && decide (i1 = i1) && true && (l1.length == l2.length) && (t1 == t2) && (l1.zip l2).all fun p => eqV n p.1 p.2) = ((t1 == t2) && (l1.zip l2).all fun p => eqV n p.1 p.2)) := by
      show _ = _
      simp [gl]
    rw [hR.out]
    clear hR
    obtain ⟨m, hm⟩ : ∃ m, l1.length = m := ⟨_, rfl⟩
    obtain ⟨t, ht⟩ : ∃ t, t1.length = t := ⟨_, rfl⟩
    rw [hm] at gl hz2 ⊢
    rw [ht] at gt hz3 ⊢
    rw [← gl, ← gt]
    have K1 := (Blk.new w 26 #[.int .i64 k1, .int .i64 i1, .string x1, .slice a1 m c1, .slice b1 t e1]).alloc (.cells #[.int .i64 k1, .int .i64 i1, .string x2, .slice a2 m c2, .slice b2 t e2] 26)
    have K2 := Blk.new (w.alloc (.cells #[.int .i64 k1, .int .i64 i1, .string x1, .slice a1 m c1, .slice b1 t e1] 26)) 26 #[.int .i64 k1, .int .i64 i1, .string x2, .slice a2 m c2, .slice b2 t e2]
    simp only [World.size_alloc] at K2
    have hBW := HB0.out (.cells #[.int .i64 k1, .int .i64 i1, .string x1, .slice a1 m c1, .slice b1 t e1] 26) (.cells #[.int .i64 k1, .int .i64 i1, .string x2, .slice a2 m c2, .slice b2 t e2] 26)
    have HS1 := hide hS1; have HS2 := hide hS2; have HL1 := hide hL1; have HL2 := hide hL2; have HZ5 := hide hz5
    obtain ⟨R, hR⟩ : ∃ R, ((t1 == t2) && (l1.zip l2).all fun p => eqV n p.1 p.2) = R := ⟨_, rfl⟩
    rw [hR]
    have HT := hide ht; have HM := hide hm; have GT := hide gt; have GL := hide gl; have HR := hide hR
    clear hS1 hS2 hL1 hL2 hz5 ht hm gt gl gs hR
    go_enter Tryd.func17, Tryd.ntmps17
    go_wp2_with fail
    generalize (w.alloc (.cells #[.int .i64 k1, .int .i64 i1, .string x1, .slice a1 m c1, .slice b1 t e1] 26)).alloc (.cells #[.int .i64 k1, .int .i64 i1, .string x2, .slice a2 m c2, .slice b2 t e2] 26) = W at K1 K2 hBW ⊢
    have HS1 := hide (HS1.out.on (Stays.of_below hBW fun b h => hU1 _ _ b hBW h))
    have HS2 := hide (HS2.out.on (Stays.of_below hBW fun b h => hU2 _ _ b hBW h))
    have HL1 := hide (HL1.out.on (R' := IsV U1 W n) (Stays.of_below hBW fun b h => hU1 _ _ b hBW h) (IsV.on (Stays.of_below hBW fun b h => hU1 _ _ b hBW h) n))
    have HL2 := hide (HL2.out.on (R' := IsV U2 W n) (Stays.of_below hBW fun b h => hU2 _ _ b hBW h) (IsV.on (Stays.of_below hBW fun b h => hU2 _ _ b hBW h) n))
    have HBW := hide hBW
    have p3 := K1.cell 3; have p4 := K1.cell 4; have q3 := K2.cell 3; have q4 := K2.cell 4
    simp at p3 p4 q3 q4
    have z1 := K1.lt; have z2 := K2.lt
    clear hBW
    go_loopw [5] (fun i wr => ∃ j : Nat, i = .int .i64 (j : Int) ∧ j ≤ t ∧ (∃ q, wr = W.drewN q) ∧ Hid (∀ r, r < j → t1[r]? = t2[r]?)) (fun i _ => t - (intOf i).toNat)
    case atStart => exact ⟨0, rfl, Nat.zero_le _, ⟨0, rfl⟩, fun r h => absurd h (Nat.not_lt_zero _)⟩
    case round =>
      obtain ⟨j, rfl, hj, ⟨q, rfl⟩, hall⟩ := hrel
      by_cases hjl : j < t
      · obtain ⟨x, hx⟩ : ∃ x, t1[j]? = some x := ⟨_, List.getElem?_eq_getElem (by have := HT.out; omega)⟩
        obtain ⟨y, hy⟩ : ∃ y, t2[j]? = some y := ⟨_, List.getElem?_eq_getElem (by have := GT.out; omega)⟩
        obtain ⟨g1, o1, rfl, hg1, _, f1⟩ := HS1.out j x hx
        obtain ⟨g2, o2, rfl, hg2, _, f2⟩ := HS2.out j y hy
        have hji : (j : Int) < (t : Int) := by omega
        have hxy := toL_eq x y
        obtain ⟨X, hX⟩ : ∃ X : ByteArray, (⟨x.toArray⟩ : ByteArray) = X := ⟨_, rfl⟩
        obtain ⟨Y, hY⟩ : ∃ Y : ByteArray, (⟨y.toArray⟩ : ByteArray) = Y := ⟨_, rfl⟩
        rw [hX, hY] at hxy
        rw [hX] at f1
        rw [hY] at f2
        have HX := hide hx; have HY := hide hy
        clear hX hY hx hy
        rcases Bool.eq_false_or_eq_true (x == y) with ge | ge
        · rw [ge] at hxy
          have hxe : x = y := eq_of_beq ge
          have hnx : Hid (∀ r, r < j + 1 → t1[r]? = t2[r]?) := by
            intro r hr
            rcases Nat.lt_or_ge r j with h | h
            · exact hall.out r h
            · obtain rfl : r = j := by omega
              rw [HX.out, HY.out, hxe]
          clear hall ge hxe
          go_wp2_with fail
          go_quiet (fail)
          go_wp2_with fail
          go_roundw
          case rel => exact ⟨j + 1, by go_num, by omega, ⟨_, rfl⟩, hnx⟩
          case measure => simp [intOf]; omega
        · rw [ge] at hxy
          have hne : (t1 == t2) = false := by
            rw [beq_eq_false_iff_ne]
            intro e
            have h1 := HX.out; have h2 := HY.out
            rw [e, h2] at h1
            injection h1 with h1
            rw [h1] at ge
            simp at ge
          have hRf : R = false := by rw [← HR.out, hne, Bool.false_and]
          subst hRf
          clear hall hne ge
          go_wp2_with fail
          go_quiet (fail)
          go_wp2_with fail
          go_ret
          exact ⟨rfl, below_drewN (below_drewN HBW.out _) _⟩
      · obtain rfl : j = t := by omega
        have htt : (t1 == t2) = true := by
          rw [beq_iff_eq]
          apply List.ext_getElem?
          intro r
          rcases Nat.lt_or_ge r j with h | h
          · exact hall.out r h
          · rw [List.getElem?_eq_none (by have := HT.out; omega), List.getElem?_eq_none (by have := GT.out; omega)]
        have hR2 := hide (show ((l1.zip l2).all fun p => eqV n p.1 p.2) = R by rw [← HR.out, htt, Bool.true_and])
        have hjf : decide ((j : Int) < (j : Int)) = false := by simp
        clear htt hall HR
        go_wp2_with fail
        go_loopw [6] (fun i wr => ∃ j : Nat, i = .int .i64 (j : Int) ∧ j ≤ m ∧ Below W.heap.size W wr ∧ Hid (∀ r p, r < j → (l1.zip l2)[r]? = some p → eqV n p.1 p.2 = true)) (fun i _ => m - (intOf i).toNat)
        case atStart => exact ⟨0, rfl, Nat.zero_le _, below_drewN (Below.refl _ _) _, fun r p h => absurd h (Nat.not_lt_zero _)⟩
        case round =>
          obtain ⟨i, rfl, hi, hb, hal2⟩ := hrel
          have p3r := (hb.cell (p := ⟨w.heap.size, 3, none⟩) z1).trans p3
          have q3r := (hb.cell (p := ⟨w.heap.size + 1, 3, none⟩) z2).trans q3
          have zr1 : w.heap.size < wr.heap.size := Nat.lt_of_lt_of_le z1 hb.size
          have zr2 : w.heap.size + 1 < wr.heap.size := Nat.lt_of_lt_of_le z2 hb.size
          by_cases hil : i < m
          · obtain ⟨x, hx⟩ : ∃ x, l1[i]? = some x := ⟨_, List.getElem?_eq_getElem (by have := HM.out; omega)⟩
            obtain ⟨y, hy⟩ : ∃ y, l2[i]? = some y := ⟨_, List.getElem?_eq_getElem (by have := GL.out; omega)⟩
            have hzip : (l1.zip l2)[i]? = some (x, y) := by rw [List.getElem?_zip_eq_some]; exact ⟨hx, hy⟩
            have hstay1 : Stays U1 U1 W wr := Stays.of_below hb fun b h => hU1 _ _ b hb h
            have hstay2 : Stays U2 U2 W wr := Stays.of_below hb fun b h => hU2 _ _ b hb h
            obtain ⟨g1, o1, rfl, hg1, _, ka, ia, sa, aa, na, ca, ba, ma, da, hF1, hV1⟩ := (HL1.out.on hstay1 (IsV.on hstay1 n)) i x hx
            obtain ⟨g2, o2, rfl, hg2, _, kb, ib, sb, ab, nb, cb, bb, mb, db, hF2, hV2⟩ := (HL2.out.on hstay2 (IsV.on hstay2 n)) i y hy
            obtain ⟨f0, f1, f2, f3, f4⟩ := hF1
            obtain ⟨u0, u1, u2, u3, u4⟩ := hF2
            have hii : (i : Int) < (m : Int) := by omega
            have hsx := HZ5.out x (List.mem_of_getElem? hx)
            have cS := hide (fun W' (h : Below wr.heap.size wr W') => ih U1 U2 hU1 hU2 _ _ x y W' (IsV.on (Stays.of_below h fun b hh => hU1 _ _ b h hh) n _ _ hV1) (IsV.on (Stays.of_below h fun b hh => hU2 _ _ b h hh) n _ _ hV2) hsx)
            obtain ⟨eb, heb⟩ : ∃ b, eqV n x y = b := ⟨_, rfl⟩
            rw [heb] at cS
            have HZIP := hide hzip; have HEB := hide heb
            clear hV1 hV2 hstay1 hstay2 hsx hx hy hzip heb
            cases eb
            · have hne : (l1.zip l2).all (fun p => eqV n p.1 p.2) = false := by
                rw [List.all_eq_false]
                exact ⟨_, List.mem_of_getElem? HZIP.out, by simp [HEB.out]⟩
              have hRf : R = false := by rw [← hR2.out, hne]
              subst hRf
              clear hne hal2
              go_wp2_with fail
              refine wp_region_below (W := wr) (by kernel_rfl) (by kernel_rfl) (Below.refl _ _) ?_
              repeat (first
                | go_big_quiet_skip
                | (apply wpQuiet_one (by rfl)
                   · intro w' hw'
                     have hc := (bcell hw').1
                     go_simp
                     first
                       | done
                       | (go_at_call 17; exact Calls.below_of hw' (cS.out _ hw'))
                       | rfl
                   · go_simp
                     rfl))
              refine wpQuiet_nil ?_
              intro w' hw'
              go_wp2_with fail
              go_ret
              exact ⟨rfl, HBW.out.trans ((hb.trans (hw'.mono hb.size)).mono HBW.out.size)⟩
            · have hnx : Hid (∀ r p, r < i + 1 → (l1.zip l2)[r]? = some p → eqV n p.1 p.2 = true) := by
                intro r p hr hp
                rcases Nat.lt_or_ge r i with h | h
                · exact hal2.out r p h hp
                · obtain rfl : r = i := by omega
                  have := HZIP.out
                  rw [hp] at this
                  injection this with this
                  rw [this]; exact HEB.out
              clear hal2
              go_wp2_with fail
              refine wp_region_below (W := wr) (by kernel_rfl) (by kernel_rfl) (Below.refl _ _) ?_
              repeat (first
                | go_big_quiet_skip
                | (apply wpQuiet_one (by rfl)
                   · intro w' hw'
                     have hc := (bcell hw').1
                     go_simp
                     first
                       | done
                       | (go_at_call 17; exact Calls.below_of hw' (cS.out _ hw'))
                       | rfl
                   · go_simp
                     rfl))
              refine wpQuiet_nil ?_
              intro w' hw'
              go_wp2_with fail
              go_roundw
              case rel => exact ⟨i + 1, by go_num, by omega, hb.trans (hw'.mono hb.size), hnx⟩
              case measure => simp [intOf]; omega
          · obtain rfl : i = m := by omega
            have hal : (l1.zip l2).all (fun p => eqV n p.1 p.2) = true := by
              rw [List.all_eq_true]
              intro p hp
              obtain ⟨r, hr, e⟩ := List.getElem_of_mem hp
              have hr2 : r < i := by have := HM.out; simp at hr; omega
              exact hal2.out r p hr2 (by rw [List.getElem?_eq_getElem hr, e])
            have hRt : R = true := by rw [← hR2.out, hal]
            subst hRt
            have hif : decide ((i : Int) < (i : Int)) = false := by simp
            clear hal hal2
            go_wp2_with fail
            go_ret
            exact ⟨rfl, HBW.out.trans (hb.mono HBW.out.size)⟩
end Go.Proofs.YtdnmgpidfjkiaaaDoor
