/-
  PLAIN LAWS of many texts, in one.
-/
import Derived.Test.YtnepogddjinpoaaGreatDoorM1
import Derived.Test.YtnepogddjinpoaaGreatDoorQB
import Derived.Test.YtnepogddjinpoaaGreatDoorBytes
import Derived.Test.YtnepogddjinpoaaGreatDoorProg
import Derived.WalkKit
import Derived.Test.YtnepogddjinpoaaGreatDoorShelf
import Derived.OwnWalk
import Derived.Test.YtnepogddjinpoaaGreatDoorM9
import Derived.WalkSpells
import Derived.WalkLawsBesides
import Derived.Lib.SlBuf
import Derived.Test.YtnepogddjinpoaaGreatDoorStr
import Derived.Test.YtnepogddjinpoaaGreatDoorC1
import Derived.Test.YtnepogddjinpoaaGreatDoorM3
namespace Go.Proofs.YtnepogddjinpoaaGreatDoor
open Go.RowKit
set_option linter.unusedVariables false
set_option linter.unusedSimpArgs false

theorem eqV_mk {n : Nat} (k1 i1 : Int) (s1 : List UInt8) (l1 : List (VT n)) (t1 : List (List UInt8)) (k2 i2 : Int) (s2 : List UInt8) (l2 : List (VT n)) (t2 : List (List UInt8)) :
    eqV (n + 1) (⟨k1, i1, s1, l1, t1⟩ : VN (VT n)) (⟨k2, i2, s2, l2, t2⟩ : VN (VT n)) = (decide (k1 = k2) && decide (i1 = i2) && (s1 == s2) && (l1.length == l2.length) && (t1 == t2) && (l1.zip l2).all fun p => eqV n p.1 p.2) := rfl
theorem toL_eq (s t : List UInt8) : ((⟨s.toArray⟩ : ByteArray).toList == (⟨t.toArray⟩ : ByteArray).toList) = (s == t) := by
  rw [ByteArray.toList_eq, ByteArray.toList_eq]
set_option maxHeartbeats 4000000 in
set_option maxRecDepth 100000 in
theorem same_any : ∀ (n : Nat) (U1 U2 : World → Nat → Prop) (hU1 : ∀ w w' b, Below w.heap.size w w' → b < w.heap.size → U1 w b → U1 w' b) (hU2 : ∀ w w' b, Below w.heap.size w w' → b < w.heap.size → U2 w b → U2 w' b) (v1 v2 : Value) (d1 d2 : VT n) (w : World), IsV U1 w n v1 d1 → IsV U2 w n v2 d2 → SmallV n d1 →
    Calls Tryz.prog 9 #[v1, v2] w fun e w' => e = .returned (.bool (eqV n d1 d2)) ∧ Below w.heap.size w w' := by
  intro n
  induction n with
  | zero => intro U1 U2 _ _ v1 v2 d1 d2 w h; exact h.elim
  | succ n ih =>
    intro U1 U2 hU1 hU2 v1 v2 d1 d2 w h1 h2 hsm
    obtain ⟨k1, i1, s1, l1, t1⟩ := d1
    obtain ⟨k2, i2, s2, l2, t2⟩ := d2
    obtain ⟨a1, c1, b1, e1, rfl, hS1, hL1⟩ := h1.parts
    obtain ⟨a2, c2, b2, e2, rfl, hS2, hL2⟩ := h2.parts
    obtain ⟨_, hz2, hz3, _, hz5⟩ := hsm
    have hz2 : l1.length * 80 ≤ 140737488351232 := hz2
    have hz3 : t1.length * 16 ≤ 140737488351232 := hz3
    have hz5 : ∀ x ∈ l1, SmallV n x := hz5
    simp only at hS1 hL1 hS2 hL2 ⊢
    rw [eqV_mk]
    clear h1 h2
    have hxx := toL_eq s1 s2
    obtain ⟨x1, hx1⟩ : ∃ x : ByteArray, (⟨s1.toArray⟩ : ByteArray) = x := ⟨_, rfl⟩
    obtain ⟨x2, hx2⟩ : ∃ x : ByteArray, (⟨s2.toArray⟩ : ByteArray) = x := ⟨_, rfl⟩
    rw [hx1, hx2] at hxx
    rw [hx1, hx2]
    clear hx1 hx2
    have hB0 : ∀ o1 o2, Below w.heap.size w ((w.alloc o1).alloc o2) := fun o1 o2 => ((Below.refl _ _).alloc (Nat.le_refl _) _).alloc (by simp) _
    have HB0 := hide hB0
    clear hB0
    by_cases gk : k1 = k2
    rotate_left
    · have q : (k1 != k2) = true := by simpa using gk
      have hr : (decide (k1 = k2)) = false := by simpa using gk
      rw [hr]
      simp only [Bool.false_and]
      clear hS1 hL1 hS2 hL2 hxx hr gk hz5
      go_enter Tryz.func9, Tryz.ntmps9
      go_wp2_with fail
      go_ret
      exact ⟨rfl, HB0.out _ _⟩
    subst gk
    by_cases gi : i1 = i2
    rotate_left
    · have q : (i1 != i2) = true := by simpa using gi
      have hr : (decide (i1 = i2)) = false := by simpa using gi
      rw [hr]
      simp only [Bool.false_and, Bool.and_false]
      clear hS1 hL1 hS2 hL2 hxx hr gi hz5
      go_enter Tryz.func9, Tryz.ntmps9
      go_wp2_with fail
      go_ret
      exact ⟨rfl, HB0.out _ _⟩
    subst gi
    rcases Bool.eq_false_or_eq_true (s1 == s2) with gs | gs
    rotate_left
    · rw [gs] at hxx ⊢
      simp only [Bool.false_and, Bool.and_false]
      clear hS1 hL1 hS2 hL2 hz5
      go_enter Tryz.func9, Tryz.ntmps9
      go_wp2_with fail
      go_ret
      exact ⟨rfl, HB0.out _ _⟩
    rw [gs] at hxx ⊢
    by_cases gl : l1.length = l2.length
    rotate_left
    · have q : ((l1.length : Int) != (l2.length : Int)) = true := by simp; omega
      have hr : (l1.length == l2.length) = false := by simpa using gl
      rw [hr]
      simp only [Bool.false_and, Bool.and_false]
      clear hS1 hL1 hS2 hL2 hr gl hz5
      go_enter Tryz.func9, Tryz.ntmps9
      go_wp2_with fail
      go_ret
      exact ⟨rfl, HB0.out _ _⟩
    by_cases gt : t1.length = t2.length
    rotate_left
    · have q : ((t1.length : Int) != (t2.length : Int)) = true := by simp; omega
      have hr : (t1 == t2) = false := by
        rw [beq_eq_false_iff_ne]
        intro e; exact gt (congrArg _ e)
      rw [hr]
      simp only [Bool.false_and, Bool.and_false]
      have gl' : ((l1.length : Int) != (l2.length : Int)) = false := by simp; omega
      clear hS1 hL1 hS2 hL2 hr gt gl hz5
      go_enter Tryz.func9, Tryz.ntmps9
      go_wp2_with fail
      go_ret
      exact ⟨rfl, HB0.out _ _⟩
    have hR : Hid ((decide (k1 = k1) && decide (i1 = i1) && true && (l1.length == l2.length) && (t1 == t2) && (l1.zip l2).all fun p => eqV n p.1 p.2) = ((t1 == t2) && (l1.zip l2).all fun p => eqV n p.1 p.2)) := by
      show _ = _
      simp [gl]
    rw [hR.out]
    clear hR
    obtain ⟨m, hm⟩ : ∃ m, l1.length = m := ⟨_, rfl⟩
    obtain ⟨t, ht⟩ : ∃ t, t1.length = t := ⟨_, rfl⟩
    rw [hm] at gl hz2 ⊢
    rw [ht] at gt hz3 ⊢
    rw [← gl, ← gt]
    have K1 := (Blk.new w 26 #[.int .i64 k1, .int .i64 i1, .string x1, .slice a1 m c1, .slice b1 t e1]).alloc (.cells #[.int .i64 k1, .int .i64 i1, .string x2, .slice a2 m c2, .slice b2 t e2] 26)
    have K2 := Blk.new (w.alloc (.cells #[.int .i64 k1, .int .i64 i1, .string x1, .slice a1 m c1, .slice b1 t e1] 26)) 26 #[.int .i64 k1, .int .i64 i1, .string x2, .slice a2 m c2, .slice b2 t e2]
    simp only [World.size_alloc] at K2
    have hBW := HB0.out (.cells #[.int .i64 k1, .int .i64 i1, .string x1, .slice a1 m c1, .slice b1 t e1] 26) (.cells #[.int .i64 k1, .int .i64 i1, .string x2, .slice a2 m c2, .slice b2 t e2] 26)
    have HS1 := hide hS1; have HS2 := hide hS2; have HL1 := hide hL1; have HL2 := hide hL2; have HZ5 := hide hz5
    obtain ⟨R, hR⟩ : ∃ R, ((t1 == t2) && (l1.zip l2).all fun p => eqV n p.1 p.2) = R := ⟨_, rfl⟩
    rw [hR]
    have HT := hide ht; have HM := hide hm; have GT := hide gt; have GL := hide gl; have HR := hide hR
    clear hS1 hS2 hL1 hL2 hz5 ht hm gt gl gs hR
    go_enter Tryz.func9, Tryz.ntmps9
    go_wp2_with fail
    generalize (w.alloc (.cells #[.int .i64 k1, .int .i64 i1, .string x1, .slice a1 m c1, .slice b1 t e1] 26)).alloc (.cells #[.int .i64 k1, .int .i64 i1, .string x2, .slice a2 m c2, .slice b2 t e2] 26) = W at K1 K2 hBW ⊢
    have HS1 := hide (HS1.out.on (Stays.of_below hBW fun b h => hU1 _ _ b hBW h))
    have HS2 := hide (HS2.out.on (Stays.of_below hBW fun b h => hU2 _ _ b hBW h))
    have HL1 := hide (HL1.out.on (R' := IsV U1 W n) (Stays.of_below hBW fun b h => hU1 _ _ b hBW h) (IsV.on (Stays.of_below hBW fun b h => hU1 _ _ b hBW h) n))
    have HL2 := hide (HL2.out.on (R' := IsV U2 W n) (Stays.of_below hBW fun b h => hU2 _ _ b hBW h) (IsV.on (Stays.of_below hBW fun b h => hU2 _ _ b hBW h) n))
    have HBW := hide hBW
    have p3 := K1.cell 3; have p4 := K1.cell 4; have q3 := K2.cell 3; have q4 := K2.cell 4
    simp at p3 p4 q3 q4
    have z1 := K1.lt; have z2 := K2.lt
    clear hBW
    go_loopw [5] (fun i wr => ∃ j : Nat, i = .int .i64 (j : Int) ∧ j ≤ t ∧ (∃ q, wr = W.drewN q) ∧ Hid (∀ r, r < j → t1[r]? = t2[r]?)) (fun i _ => t - (intOf i).toNat)
    case atStart => exact ⟨0, rfl, Nat.zero_le _, ⟨0, rfl⟩, fun r h => absurd h (Nat.not_lt_zero _)⟩
    case round =>
      obtain ⟨j, rfl, hj, ⟨q, rfl⟩, hall⟩ := hrel
      by_cases hjl : j < t
      · obtain ⟨x, hx⟩ : ∃ x, t1[j]? = some x := ⟨_, List.getElem?_eq_getElem (by have := HT.out; omega)⟩
        obtain ⟨y, hy⟩ : ∃ y, t2[j]? = some y := ⟨_, List.getElem?_eq_getElem (by have := GT.out; omega)⟩
        obtain ⟨g1, o1, rfl, hg1, _, f1⟩ := HS1.out j x hx
        obtain ⟨g2, o2, rfl, hg2, _, f2⟩ := HS2.out j y hy
        have hji : (j : Int) < (t : Int) := by omega
        have hxy := toL_eq x y
        obtain ⟨X, hX⟩ : ∃ X : ByteArray, (⟨x.toArray⟩ : ByteArray) = X := ⟨_, rfl⟩
        obtain ⟨Y, hY⟩ : ∃ Y : ByteArray, (⟨y.toArray⟩ : ByteArray) = Y := ⟨_, rfl⟩
        rw [hX, hY] at hxy
        rw [hX] at f1
        rw [hY] at f2
        have HX := hide hx; have HY := hide hy
        clear hX hY hx hy
        rcases Bool.eq_false_or_eq_true (x == y) with ge | ge
        · rw [ge] at hxy
          have hxe : x = y := eq_of_beq ge
          have hnx : Hid (∀ r, r < j + 1 → t1[r]? = t2[r]?) := by
            intro r hr
            rcases Nat.lt_or_ge r j with h | h
            · exact hall.out r h
            · obtain rfl : r = j := by omega
              rw [HX.out, HY.out, hxe]
          clear hall ge hxe
          go_wp2_with fail
          go_quiet (fail)
          go_wp2_with fail
          go_roundw
          case rel => exact ⟨j + 1, by go_num, by omega, ⟨_, rfl⟩, hnx⟩
          case measure => simp [intOf]; omega
        · rw [ge] at hxy
          have hne : (t1 == t2) = false := by
            rw [beq_eq_false_iff_ne]
            intro e
            have h1 := HX.out; have h2 := HY.out
            rw [e, h2] at h1
            injection h1 with h1
            rw [h1] at ge
            simp at ge
          have hRf : R = false := by rw [← HR.out, hne, Bool.false_and]
          subst hRf
          clear hall hne ge
          go_wp2_with fail
          go_quiet (fail)
          go_wp2_with fail
          go_ret
          exact ⟨rfl, below_drewN (below_drewN HBW.out _) _⟩
      · obtain rfl : j = t := by omega
        have htt : (t1 == t2) = true := by
          rw [beq_iff_eq]
          apply List.ext_getElem?
          intro r
          rcases Nat.lt_or_ge r j with h | h
          · exact hall.out r h
          · rw [List.getElem?_eq_none (by have := HT.out; omega), List.getElem?_eq_none (by have := GT.out; omega)]
        have hR2 := hide (show ((l1.zip l2).all fun p => eqV n p.1 p.2) = R by rw [← HR.out, htt, Bool.true_and])
        have hjf : decide ((j : Int) < (j : Int)) = false := by simp
        clear htt hall HR
        go_wp2_with fail
        go_loopw [6] (fun i wr => ∃ j : Nat, i = .int .i64 (j : Int) ∧ j ≤ m ∧ Below W.heap.size W wr ∧ Hid (∀ r p, r < j → (l1.zip l2)[r]? = some p → eqV n p.1 p.2 = true)) (fun i _ => m - (intOf i).toNat)
        case atStart => exact ⟨0, rfl, Nat.zero_le _, below_drewN (Below.refl _ _) _, fun r p h => absurd h (Nat.not_lt_zero _)⟩
        case round =>
          obtain ⟨i, rfl, hi, hb, hal2⟩ := hrel
          have p3r := (hb.cell (p := ⟨w.heap.size, 3, none⟩) z1).trans p3
          have q3r := (hb.cell (p := ⟨w.heap.size + 1, 3, none⟩) z2).trans q3
          have zr1 : w.heap.size < wr.heap.size := Nat.lt_of_lt_of_le z1 hb.size
          have zr2 : w.heap.size + 1 < wr.heap.size := Nat.lt_of_lt_of_le z2 hb.size
          by_cases hil : i < m
          · obtain ⟨x, hx⟩ : ∃ x, l1[i]? = some x := ⟨_, List.getElem?_eq_getElem (by have := HM.out; omega)⟩
            obtain ⟨y, hy⟩ : ∃ y, l2[i]? = some y := ⟨_, List.getElem?_eq_getElem (by have := GL.out; omega)⟩
            have hzip : (l1.zip l2)[i]? = some (x, y) := by rw [List.getElem?_zip_eq_some]; exact ⟨hx, hy⟩
            have hstay1 : Stays U1 U1 W wr := Stays.of_below hb fun b h => hU1 _ _ b hb h
            have hstay2 : Stays U2 U2 W wr := Stays.of_below hb fun b h => hU2 _ _ b hb h
            obtain ⟨g1, o1, rfl, hg1, _, ka, ia, sa, aa, na, ca, ba, ma, da, hF1, hV1⟩ := (HL1.out.on hstay1 (IsV.on hstay1 n)) i x hx
            obtain ⟨g2, o2, rfl, hg2, _, kb, ib, sb, ab, nb, cb, bb, mb, db, hF2, hV2⟩ := (HL2.out.on hstay2 (IsV.on hstay2 n)) i y hy
            obtain ⟨f0, f1, f2, f3, f4⟩ := hF1
            obtain ⟨u0, u1, u2, u3, u4⟩ := hF2
            have hii : (i : Int) < (m : Int) := by omega
            have hsx := HZ5.out x (List.mem_of_getElem? hx)
            have cS := hide (fun W' (h : Below wr.heap.size wr W') => ih U1 U2 hU1 hU2 _ _ x y W' (IsV.on (Stays.of_below h fun b hh => hU1 _ _ b h hh) n _ _ hV1) (IsV.on (Stays.of_below h fun b hh => hU2 _ _ b h hh) n _ _ hV2) hsx)
            obtain ⟨eb, heb⟩ : ∃ b, eqV n x y = b := ⟨_, rfl⟩
            rw [heb] at cS
            have HZIP := hide hzip; have HEB := hide heb
            clear hV1 hV2 hstay1 hstay2 hsx hx hy hzip heb
            cases eb
            · have hne : (l1.zip l2).all (fun p => eqV n p.1 p.2) = false := by
                rw [List.all_eq_false]
                exact ⟨_, List.mem_of_getElem? HZIP.out, by simp [HEB.out]⟩
              have hRf : R = false := by rw [← hR2.out, hne]
              subst hRf
              clear hne hal2
              go_wp2_with fail
              refine wp_region_below (W := wr) (by kernel_rfl) (by kernel_rfl) (Below.refl _ _) ?_
              repeat (first
                | go_big_quiet_skip
                | (apply wpQuiet_one (by rfl)
                   · intro w' hw'
                     have hc := (bcell hw').1
                     go_simp
                     first
                       | done
                       | (go_at_call 9; exact Calls.below_of hw' (cS.out _ hw'))
                       | rfl
                   · go_simp
                     rfl))
              refine wpQuiet_nil ?_
              intro w' hw'
              go_wp2_with fail
              go_ret
              exact ⟨rfl, HBW.out.trans ((hb.trans (hw'.mono hb.size)).mono HBW.out.size)⟩
            · have hnx : Hid (∀ r p, r < i + 1 → (l1.zip l2)[r]? = some p → eqV n p.1 p.2 = true) := by
                intro r p hr hp
                rcases Nat.lt_or_ge r i with h | h
                · exact hal2.out r p h hp
                · obtain rfl : r = i := by omega
                  have := HZIP.out
                  rw [hp] at this
                  injection this with this
                  rw [this]; exact HEB.out
              clear hal2
              go_wp2_with fail
              refine wp_region_below (W := wr) (by kernel_rfl) (by kernel_rfl) (Below.refl _ _) ?_
              repeat (first
                | go_big_quiet_skip
                | (apply wpQuiet_one (by rfl)
                   · intro w' hw'
                     have hc := (bcell hw').1
                     go_simp
                     first
                       | done
                       | (go_at_call 9; exact Calls.below_of hw' (cS.out _ hw'))
                       | rfl
                   · go_simp
                     rfl))
              refine wpQuiet_nil ?_
              intro w' hw'
              go_wp2_with fail
              go_roundw
              case rel => exact ⟨i + 1, by go_num, by omega, hb.trans (hw'.mono hb.size), hnx⟩
              case measure => simp [intOf]; omega
          · obtain rfl : i = m := by omega
            have hal : (l1.zip l2).all (fun p => eqV n p.1 p.2) = true := by
              rw [List.all_eq_true]
              intro p hp
              obtain ⟨r, hr, e⟩ := List.getElem_of_mem hp
              have hr2 : r < i := by have := HM.out; simp at hr; omega
              exact hal2.out r p hr2 (by rw [List.getElem?_eq_getElem hr, e])
            have hRt : R = true := by rw [← hR2.out, hal]
            subst hRt
            have hif : decide ((i : Int) < (i : Int)) = false := by simp
            clear hal hal2
            go_wp2_with fail
            go_ret
            exact ⟨rfl, HBW.out.trans (hb.mono HBW.out.size)⟩
end Go.Proofs.YtnepogddjinpoaaGreatDoor

namespace Go.Proofs.YtnepogddjinpoaaGreatDoor
open Go.RowKit
set_option linter.unusedVariables false
set_option linter.unusedSimpArgs false

abbrev set5 (w : World) (b : Nat) (v0 v1 v2 v3 v4 : Value) : World := ((((w.setCell ⟨b, 0, none⟩ v0).setCell ⟨b, 1, none⟩ v1).setCell ⟨b, 2, none⟩ v2).setCell ⟨b, 3, none⟩ v3).setCell ⟨b, 4, none⟩ v4
theorem set5_heap (w : World) (b : Nat) (v0 v1 v2 v3 v4 : Value) (j : Nat) (h : j ≠ b) : (set5 w b v0 v1 v2 v3 v4).heap[j]? = w.heap[j]? := by
  unfold set5
  rw [Below.heap_setCell _ _ _ j h, Below.heap_setCell _ _ _ j h, Below.heap_setCell _ _ _ j h, Below.heap_setCell _ _ _ j h, Below.heap_setCell _ _ _ j h]
theorem set5_size (w : World) (b : Nat) (v0 v1 v2 v3 v4 : Value) : (set5 w b v0 v1 v2 v3 v4).heap.size = w.heap.size := by simp [set5]
theorem set5_below {B : Nat} {a w : World} (hb : Below B a w) {b : Nat} (h : B ≤ b) (v0 v1 v2 v3 v4 : Value) : Below B a (set5 w b v0 v1 v2 v3 v4) :=
  ((((hb.setCell (p := ⟨b, 0, none⟩) h v0).setCell (p := ⟨b, 1, none⟩) h v1).setCell (p := ⟨b, 2, none⟩) h v2).setCell (p := ⟨b, 3, none⟩) h v3).setCell (p := ⟨b, 4, none⟩) h v4
theorem set5_blk {w : World} {b : Nat} {t : TypeId} {u0 u1 u2 u3 u4 : Value} (h : Blk w b t #[u0, u1, u2, u3, u4]) (v0 v1 v2 v3 v4 : Value) : Blk (set5 w b v0 v1 v2 v3 v4) b t #[v0, v1, v2, v3, v4] := by
  have := ((((h.set_ 0 v0).set_ 1 v1).set_ 2 v2).set_ 3 v3).set_ 4 v4
  simpa using this
def zeroV : Value := valV 0 0 ⟨#[]⟩ none 0 0 none 0 0
/-- Where a key stands. -/
def keyAt (name : List UInt8) : List (List UInt8) → Nat → Option Nat
  | [], _ => none
  | k :: r, i => if k == name then some i else keyAt name r (i + 1)
theorem keyAt_cons (name k : List UInt8) (r : List (List UInt8)) (i : Nat) : keyAt name (k :: r) i = if k == name then some i else keyAt name r (i + 1) := rfl
theorem keyAt_le (name : List UInt8) : ∀ (ks : List (List UInt8)) (i j : Nat), keyAt name ks i = some j → i ≤ j ∧ j < i + ks.length := by
  intro ks
  induction ks with
  | nil => intro i j h; cases h
  | cons k r ih =>
    intro i j h
    rw [keyAt_cons] at h
    split at h
    · injection h with h; subst h; simp
    · have := ih _ _ h; simp; omega
/-- A record's field, and the error. -/
def fieldR {n : Nat} (d : VN (VT n)) (name : List UInt8) : Option (VT n) × Int :=
  if d.k = 6 then (match (keyAt name d.ks 0).bind fun j => d.l[j]? with | some x => (some x, 0) | none => (none, 14)) else (none, 13)
/-- A list's place, and the error. -/
def indexR {n : Nat} (d : VN (VT n)) (i : Int) : Option (VT n) × Int :=
  if d.k = 5 then (if i < 0 then (none, 15) else match d.l[i.toNat]? with | some x => (some x, 0) | none => (none, 15)) else (none, 13)
/-- What is told: the value, or none. -/
def TellsV (U : World → Nat → Prop) (w : World) (n : Nat) (r : Option (VT n)) (v : Value) : Prop :=
  match r with
  | some x => IsV U w n v x
  | none => v = zeroV
/-- The boxes of a value and of a result. -/
structure TwoB (w W : World) (k i : Int) (x : ByteArray) (a : Option Addr) (m c : Nat) (b : Option Addr) (t e : Nat) : Prop where
  bel : Below w.heap.size w W
  b1 : Blk W w.heap.size 26 #[.int .i64 k, .int .i64 i, .string x, .slice a m c, .slice b t e]
  b2 : Blk W (w.heap.size + 1) 26 #[.int .i64 0, .int .i64 0, .string ⟨#[]⟩, .slice none 0 0, .slice none 0 0]
theorem TwoB.made (w : World) (k i : Int) (x : ByteArray) (a : Option Addr) (m c : Nat) (b : Option Addr) (t e : Nat) :
    TwoB w ((w.alloc (.cells #[.int .i64 k, .int .i64 i, .string x, .slice a m c, .slice b t e] 26)).alloc (.cells #[.int .i64 0, .int .i64 0, .string ⟨#[]⟩, .slice none 0 0, .slice none 0 0] 26)) k i x a m c b t e := by
  refine ⟨((Below.refl _ _).alloc (Nat.le_refl _) _).alloc (by simp) _, (Blk.new w _ _).alloc _, ?_⟩
  have := Blk.new (w.alloc (.cells #[.int .i64 k, .int .i64 i, .string x, .slice a m c, .slice b t e] 26)) 26 #[.int .i64 0, .int .i64 0, .string ⟨#[]⟩, .slice none 0 0, .slice none 0 0]
  simpa using this
/-- A part of the argument, stored in the result's box. -/
theorem tell_ref {U : World → Nat → Prop} {w W : World} (hU : ∀ w w' b, Below w.heap.size w w' → b < w.heap.size → U w b → U w' b) {n : Nat} {v : Value} {y : VT n} (hb : Below w.heap.size w W) (hB : Blk W (w.heap.size + 1) 26 #[.int .i64 0, .int .i64 0, .string ⟨#[]⟩, .slice none 0 0, .slice none 0 0]) (hV : IsV U w n v y) (v0 v1 v2 v3 v4 : Value) :
    IsV U (set5 W (w.heap.size + 1) v0 v1 v2 v3 v4) n v y ∧ Below w.heap.size w (set5 W (w.heap.size + 1) v0 v1 v2 v3 v4) ∧ Blk (set5 W (w.heap.size + 1) v0 v1 v2 v3 v4) (w.heap.size + 1) 26 #[v0, v1, v2, v3, v4] := by
  have h2 := set5_below hb (b := w.heap.size + 1) (by omega) v0 v1 v2 v3 v4
  exact ⟨IsV.on (Stays.of_below h2 fun b h => hU _ _ b h2 h) n _ _ hV, h2, set5_blk hB _ _ _ _ _⟩
theorem tell_new {U : World → Nat → Prop} {w : World} (hU : ∀ w w' b, Below w.heap.size w w' → b < w.heap.size → U w b → U w' b) {n : Nat} {v : Value} {y : VT n} (hV : IsV U w n v y) (o : Obj) (v0 v1 v2 v3 v4 : Value) :
    IsV U ((w.alloc o).alloc (.cells #[v0, v1, v2, v3, v4] 26)) n v y ∧ Below w.heap.size w ((w.alloc o).alloc (.cells #[v0, v1, v2, v3, v4] 26)) ∧ Blk ((w.alloc o).alloc (.cells #[v0, v1, v2, v3, v4] 26)) (w.heap.size + 1) 26 #[v0, v1, v2, v3, v4] := by
  have h2 : Below w.heap.size w ((w.alloc o).alloc (.cells #[v0, v1, v2, v3, v4] 26)) := ((Below.refl _ _).alloc (Nat.le_refl _) _).alloc (by simp) _
  refine ⟨IsV.on (Stays.of_below h2 fun b h => hU _ _ b h2 h) n _ _ hV, h2, ?_⟩
  have := Blk.new (w.alloc o) 26 #[v0, v1, v2, v3, v4]
  simpa using this
set_option maxHeartbeats 2000000 in
set_option maxRecDepth 100000 in
theorem refIndex_any (n : Nat) (U : World → Nat → Prop) (hU : ∀ w w' b, Below w.heap.size w w' → b < w.heap.size → U w b → U w' b) (v : Value) (d : VN (VT n)) (q : Int) (hq0 : -9223372036854775808 ≤ q) (hq1 : q ≤ 9223372036854775807) (w : World) (h : IsV U w (n + 1) v d) (hsm : SmallV (n + 1) d) :
    Calls Tryz.prog 59 #[v, .int .i64 q] w fun e w' => ∃ v', e = .returned (.tuple #[v', .int .i64 (indexR d q).2]) ∧ TellsV U w' n (indexR d q).1 v' ∧ Below w.heap.size w w' := by
  obtain ⟨k, i, s, l, ks⟩ := d
  obtain ⟨a, c, b, e, rfl, hS, hL⟩ := h.parts
  obtain ⟨_, hz2, hz3, _, hz5⟩ := hsm
  have hz2 : l.length * 80 ≤ 140737488351232 := hz2
  have hz3 : ks.length * 16 ≤ 140737488351232 := hz3
  have hz5 : ∀ x ∈ l, SmallV n x := hz5
  simp only at hS hL ⊢
  clear h
  generalize (⟨s.toArray⟩ : ByteArray) = x
  have T := TwoB.made w k i x a l.length c b ks.length e
  have T2 := hide T
  have hq : indexR (⟨k, i, s, l, ks⟩ : VN (VT n)) q = (if k = 5 then (if q < 0 then (none, 15) else match l[q.toNat]? with | some x => (some x, 0) | none => (none, 15)) else (none, 13) : Option (VT n) × Int) := rfl
  by_cases gk : k = 5
  rotate_left
  · rw [if_neg gk] at hq
    have g : (k != 5) = true := by simpa using gk
    rw [hq]
    simp only
    have o0 := T.b2.cell 0; have o1 := T.b2.cell 1; have o2 := T.b2.cell 2; have o3 := T.b2.cell 3; have o4 := T.b2.cell 4
    simp at o0 o1 o2 o3 o4
    clear hS hL hz5 hq gk T
    go_enter Tryz.func59, Tryz.ntmps59
    go_wp2_with fail
    simp [bodyPost, results, Tryz.results59, go_sem, o0, o1, o2, o3, o4, TellsV, zeroV]
    exact T2.out.bel
  · subst gk
    rw [if_pos rfl] at hq
    by_cases g0 : q < 0
    · rw [if_pos g0] at hq
      rw [hq]
      simp only
      have o0 := T.b2.cell 0; have o1 := T.b2.cell 1; have o2 := T.b2.cell 2; have o3 := T.b2.cell 3; have o4 := T.b2.cell 4
      simp at o0 o1 o2 o3 o4
      clear hS hL hz5 hq T
      go_enter Tryz.func59, Tryz.ntmps59
      go_wp2_with fail
      simp [bodyPost, results, Tryz.results59, go_sem, o0, o1, o2, o3, o4, TellsV, zeroV]
      exact T2.out.bel
    · rw [if_neg g0] at hq
      obtain ⟨j, rfl⟩ : ∃ j : Nat, q = (j : Int) := ⟨q.toNat, by omega⟩
      rw [Int.toNat_natCast] at hq
      by_cases gj : j < l.length
      rotate_left
      · have hjt : (l.length : Int) ≤ (j : Int) := by omega
        rw [List.getElem?_eq_none (by omega)] at hq
        simp only at hq
        rw [hq]
        simp only
        have o0 := T.b2.cell 0; have o1 := T.b2.cell 1; have o2 := T.b2.cell 2; have o3 := T.b2.cell 3; have o4 := T.b2.cell 4
        simp at o0 o1 o2 o3 o4
        clear hS hL hz5 hq T
        go_enter Tryz.func59, Tryz.ntmps59
        go_wp2_with fail
        simp [bodyPost, results, Tryz.results59, go_sem, o0, o1, o2, o3, o4, TellsV, zeroV]
        exact T2.out.bel
      · obtain ⟨y, hy⟩ : ∃ y, l[j]? = some y := ⟨_, List.getElem?_eq_getElem gj⟩
        rw [hy] at hq
        simp only at hq
        rw [hq]
        simp only
        obtain ⟨g, o, rfl, hg, _, k2, i2, s2, a1, n1, d1, a2, n2, d2, ⟨f0, f1, f2, f3, f4⟩, hV⟩ := hL j y hy
        have hjf : decide ((l.length : Int) ≤ (j : Int)) = false := by simp; omega
        have hji : (j : Int) < (l.length : Int) := by omega
        have hDn := hide (tell_new hU hV (.cells #[.int .i64 5, .int .i64 i, .string x, .slice (some ⟨g, o, none⟩) l.length c, .slice b ks.length e] 26) (.int .i64 k2) (.int .i64 i2) (.string s2) (.slice a1 n1 d1) (.slice a2 n2 d2))
        clear hV hy hq hS hL hz5 T
        go_enter Tryz.func59, Tryz.ntmps59
        go_wp2_with fail
        obtain ⟨hV5, hb5, hK5⟩ := hDn.out
        generalize (w.alloc (.cells #[.int .i64 5, .int .i64 i, .string x, .slice (some ⟨g, o, none⟩) l.length c, .slice b ks.length e] 26)).alloc (.cells #[.int .i64 k2, .int .i64 i2, .string s2, .slice a1 n1 d1, .slice a2 n2 d2] 26) = w5 at hV5 hb5 hK5 ⊢
        have r0 := hK5.cell 0; have r1 := hK5.cell 1; have r2 := hK5.cell 2; have r3 := hK5.cell 3; have r4 := hK5.cell 4
        simp at r0 r1 r2 r3 r4
        have HV5 := hide hV5; have HB5 := hide hb5
        clear hV5 hb5
        simp [bodyPost, results, Tryz.results59, go_sem, r0, r1, r2, r3, r4, TellsV]
        exact ⟨HV5.out, HB5.out⟩
theorem keyAt_miss {name : List UInt8} {ks : List (List UInt8)} {j : Nat} {x : List UInt8} (hx : ks[j]? = some x) (hne : x ≠ name) : keyAt name (ks.drop j) j = keyAt name (ks.drop (j + 1)) (j + 1) := by
  obtain ⟨hj, e⟩ := List.getElem?_eq_some_iff.1 hx
  rw [List.drop_eq_getElem_cons hj, e, keyAt_cons, if_neg (by simpa using hne)]
theorem keyAt_hit {name : List UInt8} {ks : List (List UInt8)} {j : Nat} (hx : ks[j]? = some name) : keyAt name (ks.drop j) j = some j := by
  obtain ⟨hj, e⟩ := List.getElem?_eq_some_iff.1 hx
  rw [List.drop_eq_getElem_cons hj, e, keyAt_cons, if_pos (by simp)]
set_option maxHeartbeats 2000000 in
set_option maxRecDepth 100000 in
theorem refField_any (n : Nat) (U : World → Nat → Prop) (hU : ∀ w w' b, Below w.heap.size w w' → b < w.heap.size → U w b → U w' b) (v : Value) (d : VN (VT n)) (name : List UInt8) (w : World) (h : IsV U w (n + 1) v d) (hsm : SmallV (n + 1) d) :
    Calls Tryz.prog 39 #[v, .string ⟨name.toArray⟩] w fun e w' => ∃ v', e = .returned (.tuple #[v', .int .i64 (fieldR d name).2]) ∧ TellsV U w' n (fieldR d name).1 v' ∧ Below w.heap.size w w' := by
  obtain ⟨k, i, s, l, ks⟩ := d
  obtain ⟨a, c, b, e, rfl, hS, hL⟩ := h.parts
  obtain ⟨_, hz2, hz3, _, hz5⟩ := hsm
  have hz2 : l.length * 80 ≤ 140737488351232 := hz2
  have hz3 : ks.length * 16 ≤ 140737488351232 := hz3
  simp only at hS hL ⊢
  clear h hz5
  generalize (⟨s.toArray⟩ : ByteArray) = x
  have T := TwoB.made w k i x a l.length c b ks.length e
  have hq : fieldR (⟨k, i, s, l, ks⟩ : VN (VT n)) name = (if k = 6 then (match (keyAt name ks 0).bind fun j => l[j]? with | some x => (some x, 0) | none => (none, 14)) else (none, 13) : Option (VT n) × Int) := rfl
  by_cases gk : k = 6
  rotate_left
  · rw [if_neg gk] at hq
    have q : (k != 6) = true := by simpa using gk
    rw [hq]
    have o0 := T.b2.cell 0; have o1 := T.b2.cell 1; have o2 := T.b2.cell 2; have o3 := T.b2.cell 3; have o4 := T.b2.cell 4
    simp at o0 o1 o2 o3 o4
    have T2 := hide T
    simp only
    clear hS hL hq gk T
    go_enter Tryz.func39, Tryz.ntmps39
    go_wp2_with fail
    simp [bodyPost, results, Tryz.results39, go_sem, o0, o1, o2, o3, o4, TellsV, zeroV]
    exact T2.out.bel
  · subst gk
    rw [if_pos rfl] at hq
    obtain ⟨R, hR⟩ : ∃ R, fieldR (⟨6, i, s, l, ks⟩ : VN (VT n)) name = R := ⟨_, rfl⟩
    rw [hR] at hq ⊢
    have HQ := hide hq
    clear hq hR
    have HS := hide hS; have HL := hide hL
    clear hS hL
    go_enter Tryz.func39, Tryz.ntmps39
    go_wp2_with fail
    generalize (w.alloc (.cells #[.int .i64 6, .int .i64 i, .string x, .slice a l.length c, .slice b ks.length e] 26)).alloc (.cells #[.int .i64 0, .int .i64 0, .string ⟨#[]⟩, .slice none 0 0, .slice none 0 0] 26) = W at T ⊢
    have p3 := T.b1.cell 3; have p4 := T.b1.cell 4
    simp at p3 p4
    have T2 := hide T
    have l2 := T.b2.lt
    clear T
    go_loopw [6] (fun iv wr => ∃ j : Nat, iv = .int .i64 (j : Int) ∧ j ≤ ks.length ∧ wr = W ∧ Hid (keyAt name ks 0 = keyAt name (ks.drop j) j)) (fun iv _ => ks.length - (intOf iv).toNat)
    case atStart => exact ⟨0, rfl, Nat.zero_le _, rfl, rfl⟩
    case round =>
      obtain ⟨j, rfl, hj, rfl, hrel⟩ := hrel
      have hbw := T2.out.bel
      have o0 := T2.out.b2.cell 0; have o1 := T2.out.b2.cell 1; have o2 := T2.out.b2.cell 2; have o3 := T2.out.b2.cell 3; have o4 := T2.out.b2.cell 4
      simp at o0 o1 o2 o3 o4
      have y0 := T2.out.b2.frozen 0; have y1 := T2.out.b2.frozen 1; have y2 := T2.out.b2.frozen 2; have y3 := T2.out.b2.frozen 3; have y4 := T2.out.b2.frozen 4
      by_cases hin : j < ks.length ∧ j < l.length
      rotate_left
      · have hRe : R = (none, 14) := by
          rw [HQ.out, hrel.out]
          cases hk : keyAt name (ks.drop j) j with
          | none => rfl
          | some r =>
            have h1 := keyAt_le name _ _ _ hk
            rw [List.length_drop] at h1
            simp only [Option.bind_some]
            rw [List.getElem?_eq_none (by omega)]
        subst hRe
        have HB := hide hbw
        clear hbw hrel
        by_cases hjk : j < ks.length
        · have h1 : (j : Int) < (ks.length : Int) := by omega
          have h2 : decide ((j : Int) < (l.length : Int)) = false := by simp; omega
          go_wp2_with fail
          simp [bodyPost, results, Tryz.results39, go_sem, o0, o1, o2, o3, o4, TellsV, zeroV]
          exact set5_below HB.out (b := w.heap.size + 1) (by omega) _ _ _ _ _
        · have h1 : decide ((j : Int) < (ks.length : Int)) = false := by simp; omega
          go_wp2_with fail
          simp [bodyPost, results, Tryz.results39, go_sem, o0, o1, o2, o3, o4, TellsV, zeroV]
          exact set5_below HB.out (b := w.heap.size + 1) (by omega) _ _ _ _ _
      · obtain ⟨hjk, hjl⟩ := hin
        have h1 : (j : Int) < (ks.length : Int) := by omega
        have h2 : (j : Int) < (l.length : Int) := by omega
        obtain ⟨z, hz⟩ : ∃ z, ks[j]? = some z := ⟨_, List.getElem?_eq_getElem hjk⟩
        obtain ⟨g, off, rfl, hg, _, f⟩ := HS.out j z hz
        have hgW : g < wr.heap.size := Nat.lt_of_lt_of_le hg hbw.size
        have f := (hbw.cell (p := ⟨g, off + j, none⟩) hg).trans f
        have hzz := toL_eq z name
        obtain ⟨Z, hZ⟩ : ∃ Z : ByteArray, (⟨z.toArray⟩ : ByteArray) = Z := ⟨_, rfl⟩
        obtain ⟨NM, hN⟩ : ∃ Z : ByteArray, (⟨name.toArray⟩ : ByteArray) = Z := ⟨_, rfl⟩
        rw [hZ] at f hzz
        rw [hN] at hzz
        by_cases he : z = name
        · subst he
          obtain ⟨y, hy⟩ : ∃ y, l[j]? = some y := ⟨_, List.getElem?_eq_getElem hjl⟩
          obtain ⟨g3, o3', rfl, hg3, _, k2, i2, s2, a1, n1, d1, a2, n2, d2, ⟨f0, f1, f2, f3, f4⟩, hV⟩ := HL.out j y hy
          have e0 := (hbw.cell (p := ⟨g3, o3' + j * 5, none⟩) hg3).trans f0
          have e1 := (hbw.cell (p := ⟨g3, o3' + j * 5 + 1, none⟩) hg3).trans f1
          have e2 := (hbw.cell (p := ⟨g3, o3' + j * 5 + 2, none⟩) hg3).trans f2
          have e3 := (hbw.cell (p := ⟨g3, o3' + j * 5 + 3, none⟩) hg3).trans f3
          have e4 := (hbw.cell (p := ⟨g3, o3' + j * 5 + 4, none⟩) hg3).trans f4
          have hg3W : g3 < wr.heap.size := Nat.lt_of_lt_of_le hg3 hbw.size
          have hRe : R = (some y, 0) := by
            rw [HQ.out, hrel.out, keyAt_hit hz]
            simp only [Option.bind_some, hy]
          subst hRe
          have hDn := hide (tell_ref hU hbw T2.out.b2 hV (.int .i64 k2) (.int .i64 i2) (.string s2) (.slice a1 n1 d1) (.slice a2 n2 d2))
          simp only [beq_self_eq_true] at hzz
          clear hV hy hz hbw hrel f0 f1 f2 f3 f4
          go_wp2_with fail
          obtain ⟨hV5, hb5, hK5⟩ := hDn.out
          unfold set5 at hV5 hb5 hK5
          clear o0 o1 o2 o3 o4 y0 y1 y2 y3 y4 e0 e1 e2 e3 e4
          generalize ((((wr.setCell ⟨w.heap.size + 1, 0, none⟩ (.int .i64 k2)).setCell ⟨w.heap.size + 1, 1, none⟩ (.int .i64 i2)).setCell ⟨w.heap.size + 1, 2, none⟩ (.string s2)).setCell ⟨w.heap.size + 1, 3, none⟩ (.slice a1 n1 d1)).setCell ⟨w.heap.size + 1, 4, none⟩ (.slice a2 n2 d2) = w5 at hV5 hb5 hK5 ⊢
          have r0 := hK5.cell 0; have r1 := hK5.cell 1; have r2 := hK5.cell 2; have r3 := hK5.cell 3; have r4 := hK5.cell 4
          simp at r0 r1 r2 r3 r4
          have HV5 := hide hV5; have HB5 := hide hb5
          clear hV5 hb5
          simp [bodyPost, results, Tryz.results39, go_sem, r0, r1, r2, r3, r4, TellsV]
          exact ⟨HV5.out, HB5.out⟩
        · have hb : (z == name) = false := by simpa using he
          rw [hb] at hzz
          have hnx : Hid (keyAt name ks 0 = keyAt name (ks.drop (j + 1)) (j + 1)) := by
            show _ = _
            rw [hrel.out, keyAt_miss hz he]
          clear hbw hrel hz hb he
          go_wp2_with fail
          go_roundw
          case rel => exact ⟨j + 1, by go_num, by omega, by first | rfl | trivial, hnx⟩
          case measure => simp [intOf]; omega
end Go.Proofs.YtnepogddjinpoaaGreatDoor

namespace Go.Proofs.YtnepogddjinpoaaGreatDoor
open Go.RowKit
set_option linter.unusedVariables false
set_option linter.unusedSimpArgs false

/-- Prints, one behind the other, each behind what stands ahead of it, with blanks between. -/
def bodyFrom (f : Nat → List UInt8) : Nat → List (List UInt8) → List UInt8
  | _, [] => []
  | j, p :: r => (if j = 0 then [] else [32]) ++ f j ++ p ++ bodyFrom f (j + 1) r
theorem bodyFrom_snoc (f : Nat → List UInt8) : ∀ (l : List (List UInt8)) (j : Nat) (p : List UInt8), bodyFrom f j (l ++ [p]) = bodyFrom f j l ++ ((if j + l.length = 0 then [] else [32]) ++ f (j + l.length) ++ p) := by
  intro l
  induction l with
  | nil => intro j p; simp [bodyFrom]
  | cons q l ih =>
    intro j p
    simp only [List.cons_append, bodyFrom, ih, List.length_cons]
    rw [show j + 1 + l.length = j + (l.length + 1) by omega]
    simp only [List.append_assoc]
theorem bodyFrom_take (f : Nat → List UInt8) {l : List (List UInt8)} {j : Nat} {p : List UInt8} (h : l[j]? = some p) : bodyFrom f 0 (l.take (j + 1)) = bodyFrom f 0 (l.take j) ++ ((if j = 0 then [] else [32]) ++ f j ++ p) := by
  have hj := (List.getElem?_eq_some_iff.1 h).1
  rw [List.take_add_one, h]
  simp only [Option.toList_some]
  rw [bodyFrom_snoc]
  simp only [List.length_take, Nat.zero_add]
  rw [Nat.min_eq_left (by omega)]
theorem bodyFrom_le (f : Nat → List UInt8) : ∀ (l : List (List UInt8)) (j i : Nat), (bodyFrom f i (l.take j)).length ≤ (bodyFrom f i l).length := by
  intro l
  induction l with
  | nil => intro j i; simp
  | cons p l ih =>
    intro j i
    cases j with
    | zero => simp [bodyFrom]
    | succ j =>
      have := ih j (i + 1)
      simp only [List.take_succ_cons, bodyFrom, List.length_append]
      omega
theorem mkAppP (x y : List UInt8) : ((⟨x.toArray⟩ : ByteArray) ++ ⟨y.toArray⟩) = ⟨(x ++ y).toArray⟩ := by apply ByteArray.ext; simp
/-- What stands ahead of a record's value, by its place. -/
def keyAhead (ks : List (List UInt8)) (j : Nat) : List UInt8 := (match ks[j]? with | some k => k | none => []) ++ [58]
def printV : (n : Nat) → VT n → List UInt8
  | 0, _ => []
  | n + 1, d =>
    if VN.k d = 0 then [110, 117, 108, 108]
    else if VN.k d = 1 then [102, 97, 108, 115, 101]
    else if VN.k d = 2 then [116, 114, 117, 101]
    else if VN.k d = 3 then pInt (VN.i d)
    else if VN.k d = 5 then [91] ++ bodyFrom (fun _ => []) 0 ((VN.l d).map (printV n)) ++ [93]
    else if VN.k d = 6 then [123] ++ bodyFrom (keyAhead (VN.ks d)) 0 ((VN.l d).map (printV n)) ++ [125]
    else VN.s d
theorem printV_mk {n : Nat} (k i : Int) (s : List UInt8) (l : List (VT n)) (ks : List (List UInt8)) : printV (n + 1) (⟨k, i, s, l, ks⟩ : VN (VT n)) =
    if k = 0 then [110, 117, 108, 108] else if k = 1 then [102, 97, 108, 115, 101] else if k = 2 then [116, 114, 117, 101] else if k = 3 then pInt i
    else if k = 5 then [91] ++ bodyFrom (fun _ => []) 0 (l.map (printV n)) ++ [93] else if k = 6 then [123] ++ bodyFrom (keyAhead ks) 0 (l.map (printV n)) ++ [125] else s := rfl
theorem pInt_le21 (n : Int) (h0 : -9223372036854775808 ≤ n) (h1 : n ≤ 9223372036854775807) : (pInt n).length ≤ 21 := by
  unfold pInt
  have := (decs_len20 n.natAbs (by omega)).1
  split
  · simp; omega
  · omega
theorem sumBy_mul {α : Type} (f : α → Nat) (c : Nat) : ∀ l : List α, sumBy (fun x => c * f x) l = c * sumBy f l := by
  intro l
  induction l with
  | nil => simp [sumBy]
  | cons x l ih => simp only [sumBy, ih, Nat.mul_add]
theorem sumBy_addc {α : Type} (f : α → Nat) (c : Nat) : ∀ l : List α, sumBy (fun x => f x + c) l = sumBy f l + c * l.length := by
  intro l
  induction l with
  | nil => simp [sumBy]
  | cons x l ih => simp only [sumBy, ih, List.length_cons, Nat.mul_succ]; omega
theorem body_len (f : Nat → List UInt8) (g : Nat → Nat) (hf : ∀ j, (f j).length ≤ g j) : ∀ (l : List (List UInt8)) (j : Nat), (bodyFrom f j l).length ≤ sumBy (fun p => p.length + 1) l + sumBy (fun r => g r) (List.range' j l.length) := by
  intro l
  induction l with
  | nil => intro j; simp [bodyFrom, sumBy]
  | cons p l ih =>
    intro j
    have h1 := ih (j + 1)
    have h2 := hf j
    simp only [bodyFrom, List.length_append, sumBy, List.length_cons, List.range'_succ]
    have h3 : (if j = 0 then ([] : List UInt8) else [32]).length ≤ 1 := by split <;> simp
    omega
theorem keys_sum (ks : List (List UInt8)) : ∀ (m j : Nat), sumBy (fun r => (keyAhead ks r).length) (List.range' j m) ≤ m + sumBy (fun k => k.length + 1) (ks.drop j) := by
  intro m
  induction m with
  | zero => intro j; simp [sumBy]
  | succ m ih =>
    intro j
    have h1 := ih (j + 1)
    rw [List.range'_succ]
    simp only [sumBy]
    rcases Nat.lt_or_ge j ks.length with h | h
    · rw [List.drop_eq_getElem_cons h]
      simp only [sumBy]
      have : (keyAhead ks j).length = (ks[j]'h).length + 1 := by unfold keyAhead; rw [List.getElem?_eq_getElem h]; simp
      omega
    · have : (keyAhead ks j).length = 1 := by unfold keyAhead; rw [List.getElem?_eq_none h]; simp
      rw [List.drop_of_length_le (by omega)] at h1 ⊢
      omega
theorem const_sum (c : Nat) : ∀ (m j : Nat), sumBy (fun _ => c) (List.range' j m) = c * m := by
  intro m
  induction m with
  | zero => intro j; simp [sumBy]
  | succ m ih => intro j; rw [List.range'_succ]; simp only [sumBy, ih, Nat.mul_succ]; omega
theorem sum_len {α : Type} (f : α → Nat) : ∀ l : List α, sumBy (fun x => f x + 1) l = sumBy f l + l.length := by
  intro l
  induction l with
  | nil => rfl
  | cons x l ih => simp only [sumBy, ih, List.length_cons]; omega
theorem print_len : ∀ (n : Nat) (d : VT n), NumV n d → (printV n d).length + 4 ≤ 25 * massV n d := by
  intro n
  induction n with
  | zero => intro d _; show 0 + 4 ≤ 25 * 1; omega
  | succ n ih =>
    intro d hn
    obtain ⟨k, i, s, l, ks⟩ := d
    obtain ⟨hi, hl⟩ := hn
    have hl : ∀ x ∈ l, NumV n x := hl
    rw [printV_mk, massV_succ]
    show _ ≤ 25 * (1 + s.length + sumBy (fun k => k.length + 1) ks + sumBy (massV n) l)
    have hsum : sumBy (fun x => (printV n x).length + 4) l ≤ sumBy (fun x => 25 * massV n x) l := sumBy_le l fun x hx => ih x (hl x hx)
    have hmul := sumBy_mul (massV n) 25 l
    have hB : ∀ (f : Nat → List UInt8) (c : Nat), sumBy (fun r => (f r).length) (List.range' 0 l.length) ≤ l.length + c → (bodyFrom f 0 (l.map (printV n))).length + 2 * l.length ≤ 25 * sumBy (massV n) l + c := by
      intro f c hc
      have h1 := body_len f (fun r => (f r).length) (fun j => Nat.le_refl _) (l.map (printV n)) 0
      rw [List.length_map, sumBy_map] at h1
      have h2 := sumBy_addc (fun x => (printV n x).length) 4 l
      have h3 := sumBy_addc (fun x => (printV n x).length) 1 l
      omega
    split
    · simp; omega
    split
    · simp; omega
    split
    · simp; omega
    split
    · have := pInt_le21 i hi.1 hi.2; omega
    split
    · have := hB (fun _ => []) 0 (by simp only [List.length_nil]; rw [const_sum]; omega)
      simp only [List.length_append, List.length_singleton]
      omega
    split
    · have := hB (keyAhead ks) (sumBy (fun k => k.length + 1) ks) (by have := keys_sum ks l.length 0; simpa using this)
      simp only [List.length_append, List.length_singleton]
      omega
    · omega
end Go.Proofs.YtnepogddjinpoaaGreatDoor

namespace Go.Proofs.YtnepogddjinpoaaGreatDoor
open Go.RowKit
set_option linter.unusedVariables false

/-- The room of 20 octets: zeros, then what has been written. -/
def room (p : Nat) (lo : List UInt8) : Array Value := (List.replicate p (Value.int .u8 0) ++ bv lo).toArray
theorem room_at (p : Nat) (lo : List UInt8) (h : 1 ≤ p) : (room p lo)[p - 1]? = some (.int .u8 0) := by
  unfold room
  rw [List.getElem?_toArray, List.getElem?_append_left (by simp; omega), List.getElem?_replicate, if_pos (by omega)]
theorem room_set (p : Nat) (lo : List UInt8) (h : 1 ≤ p) (c : UInt8) : (room p lo).setIfInBounds (p - 1) (.int .u8 (c.toNat : Int)) = room (p - 1) (c :: lo) := by
  unfold room
  rw [List.setIfInBounds_toArray]
  congr 1
  obtain ⟨m, rfl⟩ : ∃ m, p = m + 1 := ⟨p - 1, by omega⟩
  rw [List.replicate_succ', Nat.add_sub_cancel, List.append_assoc, List.set_append_right _ _ (by simp)]
  simp [bv]
theorem room_reads {w : World} {g : Nat} {t : TypeId} {p n : Nat} {lo : List UInt8} (h : Blk w g t (room p lo)) (hl : lo.length = n) : Reads w w.heap.size 1 (some ⟨g, p, none⟩) n (bv lo) := by
  refine ⟨by rw [bv_length]; omega, fun hn => ⟨_, rfl, h.lt, fun j u hu => ?_⟩⟩
  have hadd : (⟨g, p, none⟩ : Addr).add j = ⟨g, p + j, none⟩ := by unfold Addr.add; split <;> simp_all
  rw [hadd, h.cell]
  unfold room
  rw [List.getElem?_toArray, List.getElem?_append_right (by simp)]
  simpa using hu
end Go.Proofs.YtnepogddjinpoaaGreatDoor

namespace Go.Proofs.YtnepogddjinpoaaGreatDoor
open Go.RowKit
set_option linter.unusedVariables false

/-- What holds at the head of the loop: the digits of U are those of u and then lo. -/
def PrintRel (U B : Nat) (w0 : World) (p u : Nat) (lo : List UInt8) (wr : World) : Prop :=
  u ≤ 9223372036854775808 ∧ decs U = decs u ++ lo ∧ lo.length + p = 20 ∧ Blk wr B 213 (room p lo) ∧ Below w0.heap.size w0 wr
theorem PrintRel.p {U B p u w0 lo wr} (h : PrintRel U B w0 p u lo wr) (hU : U ≤ 18446744073709551615) : 1 ≤ p ∧ p ≤ 20 := by
  obtain ⟨h1, h2, h3, _⟩ := h
  have a := decs_len20 U hU
  have b := (decs_len20 u (by omega)).2
  rw [h2, List.length_append] at a
  omega
/-- One digit more. -/
theorem PrintRel.put {U B p u w0 lo wr} (h : PrintRel U B w0 p u lo wr) (hp : 1 ≤ p) (hB : w0.heap.size ≤ B) (hu : ¬ u < 10) :
    PrintRel U B w0 (p - 1) (u / 10) (dig (u % 10) :: lo) (wr.setCell ⟨B, p - 1, none⟩ (.int .u8 (48 + (u : Int) % 10))) := by
  obtain ⟨h1, h2, h3, h4, h5⟩ := h
  refine ⟨by omega, ?_, by simp; omega, ?_, h5.setCell (by simpa using hB) _⟩
  · rw [h2, decs_big u hu]; simp
  · have e : (48 + (u : Int) % 10) = ((dig (u % 10)).toNat : Int) := by rw [dig_toNat _ (by omega)]; omega
    rw [e, ← room_set p lo hp]
    exact h4.set_ _ _
/-- The last digit: the room holds all. -/
theorem PrintRel.last {U B p u w0 lo wr} (h : PrintRel U B w0 p u lo wr) (hp : 1 ≤ p) (hB : w0.heap.size ≤ B) (hu : u < 10) :
    Blk (wr.setCell ⟨B, p - 1, none⟩ (.int .u8 (48 + (u : Int) % 10))) B 213 (room (p - 1) (decs U)) ∧ Below w0.heap.size w0 (wr.setCell ⟨B, p - 1, none⟩ (.int .u8 (48 + (u : Int) % 10))) ∧ (decs U).length + (p - 1) = 20 := by
  obtain ⟨h1, h2, h3, h4, h5⟩ := h
  refine ⟨?_, h5.setCell (by simpa using hB) _, ?_⟩
  · have e : (48 + (u : Int) % 10) = ((dig u).toNat : Int) := by rw [dig_toNat _ (by omega)]; omega
    rw [e, h2, decs_small u hu, List.singleton_append, ← room_set p lo hp]
    exact h4.set_ _ _
  · rw [h2, decs_small u hu]; simp; omega

theorem slice_room (W : World) (B q m : Nat) (h : q + m = 20) (hm : 1 ≤ m) :
    (Instr.sliceAt 213 (.pointer (some ⟨B, 0, none⟩)) (some (.int .i64 (q : Int))) none none).run Tryz.prog W = .ok (.slice (some ⟨B, q, none⟩) m m) W := by
  have e : Tryz.prog.arrayLen 213 = 20 := by kernel_rfl
  have e2 : (sizeOf (Tryz.prog.elem 213)).run Tryz.prog W = .ok 1 W := by kernel_rfl
  rw [run_sliceAt_array_l W 213 ⟨B, 0, none⟩ (by kernel_rfl) .i64 (q : Int) (by omega) (by rw [e]; omega), e2, e]
  have e3 : 20 - q = m := by omega
  have e4 : (if 20 = q then (⟨B, 0, none⟩ : Addr) else (⟨B, 0, none⟩ : Addr).add (q * 1)) = ⟨B, q, none⟩ := by
    rw [if_neg (by omega)]; unfold Addr.add; split <;> simp_all
  simp only [Result.andThen, slicedAt, Int.toNat_natCast, e3, e4]

set_option maxRecDepth 100000 in
set_option maxHeartbeats 400000 in
theorem print_pos (n : Nat) (w : World) (h2 : n ≤ 9223372036854775807) :
    Calls Tryz.prog 129 #[.int .i64 n] w fun e w' => e = .returned (.string ⟨(decs n).toArray⟩) ∧ Below w.heap.size w w' := by
  have hn : ¬ (n : Int) < 0 := by omega
  go_enter Tryz.func129, Tryz.ntmps129
  go_wp2
  go_loopw [4, 5] (fun a v wr => ∃ (p u : Nat) (lo : List UInt8), a = .int .i64 (p : Int) ∧ v = .int .u64 (u : Int) ∧ PrintRel n w.heap.size w p u lo wr)
    (fun _ v _ => (intOf v).toNat)
  case atStart => exact ⟨20, n, [], rfl, rfl, by omega, by simp, rfl, Blk.new _ _ _, (Below.refl _ _).alloc (Nat.le_refl _) _⟩
  case round =>
    obtain ⟨p, u, lo, rfl, rfl, HR⟩ := hrel
    obtain ⟨hp1, hp2⟩ := HR.p (by omega)
    have hu : (u : Int) ≤ 18446744073709551615 := by have := HR.1; omega
    have hc : wr.cell? ⟨w.heap.size, p - 1, none⟩ = some (.int .u8 0) := by rw [HR.2.2.2.1.cell]; exact room_at p lo (by omega)
    have hf : wr.frozen? ⟨w.heap.size, p - 1, none⟩ = false := HR.2.2.2.1.frozen _
    by_cases hz : u < 10
    · have hq := HR.last hp1 (Nat.le_refl _) hz
      have HRR := hide HR; clear HR
      obtain ⟨q, rfl⟩ : ∃ q, p = q + 1 := ⟨p - 1, by omega⟩
      rw [Nat.add_sub_cancel] at hq hc hf
      have hcv := conv_str 119 9 5 Tryz.underlying119 Tryz.underlying5 Tryz.underlying9 (c := (decs n).length) (room_reads (n := (decs n).length) hq.1 rfl)
      have hsl := fun W => slice_room W w.heap.size q (decs n).length (by have := hq.2.2; omega) (by have := hq.2.2; omega)
      have HQ := hide hq; clear hq
      have HZ : ((u : Int) / 10 == 0) = true := by simp; omega
      go_wp2
      go_ret
      exact ⟨rfl, HQ.out.2.1⟩
    · have HQ := hide (HR.put hp1 (Nat.le_refl _) hz)
      have HRR := hide HR; clear HR
      have HZ : ((u : Int) / 10 == 0) = false := by simp; omega
      go_wp2
      go_roundw
      case rel => exact ⟨p - 1, u / 10, _, by go_num, by go_num, HQ.out⟩
      case measure => simp [intOf]; omega

/-- 'uint(n)' of a number below 0, and 0 less that. -/
theorem conv_neg (m : Nat) (h0 : 1 ≤ m) (h1 : m ≤ 9223372036854775808) : ∃ X : Int, (∀ W, (convert 3 214 (.int .i64 (-(m : Int)))).run Tryz.prog W = .ok (.int .u64 X) W) ∧ IntKind.u64.wrap (-X) = (m : Int) := by
  refine ⟨-(m : Int) + 18446744073709551616, fun W => ?_, ?_⟩
  · have e : IntKind.u64.wrap (-(m : Int)) = -(m : Int) + 18446744073709551616 := by simp [IntKind.wrap, IntKind.bits, IntKind.signed]; omega
    go_simp
  · simp [IntKind.wrap, IntKind.bits, IntKind.signed]; omega

/-- copy(b[q:], "-"). -/
theorem copy_dash {W : World} {B q m : Nat} {ty : TypeId} {v : Value} (hm : 1 ≤ m) (hc : W.cell? ⟨B, q, none⟩ = some v) (hf : W.frozen? ⟨B, q, none⟩ = false) :
    (Builtin.copy_ #[119, 9] ty #[.slice (some ⟨B, q, none⟩) m m, .string ⟨#[45]⟩]).run Tryz.prog W = .ok (.int .i64 1) (W.setCell ⟨B, q, none⟩ (.int .u8 45)) := by
  obtain ⟨m, rfl⟩ : ∃ k, m = k + 1 := ⟨m - 1, by omega⟩
  have hmin : Nat.min 1 (m + 1) = 1 := Nat.min_eq_left (by omega)
  have hs : (sizeOf 5).run Tryz.prog W = .ok 1 W := by kernel_rfl
  simp [Builtin.copy_, run_underlying Tryz.underlying119, Builtin.lenOf, Builtin.firstCells, hs, storeCells, go_sem, hc, hf, hmin]

set_option maxRecDepth 100000 in
set_option maxHeartbeats 400000 in
theorem print_neg (m : Nat) (w : World) (h0 : 1 ≤ m) (h1 : m ≤ 9223372036854775808) :
    Calls Tryz.prog 129 #[.int .i64 (-(m : Int))] w fun e w' => e = .returned (.string ⟨(45 :: decs m).toArray⟩) ∧ Below w.heap.size w w' := by
  obtain ⟨X, hX1, hX2⟩ := conv_neg m h0 h1
  have hn : -(m : Int) < 0 := by omega
  have HM := hide h1; clear h1
  go_enter Tryz.func129, Tryz.ntmps129
  go_wp2
  have HX1 := hide hX1; have HX2 := hide hX2; clear hX1 hX2
  go_loopw [4, 5] (fun a v wr => ∃ (p u : Nat) (lo : List UInt8), a = .int .i64 (p : Int) ∧ v = .int .u64 (u : Int) ∧ PrintRel m w.heap.size w p u lo wr)
    (fun _ v _ => (intOf v).toNat)
  case atStart => exact ⟨20, m, [], rfl, rfl, HM.out, by simp, rfl, Blk.new _ _ _, (Below.refl _ _).alloc (Nat.le_refl _) _⟩
  case round =>
    obtain ⟨p, u, lo, rfl, rfl, HR⟩ := hrel
    obtain ⟨hp1, hp2⟩ := HR.p (by have := HM.out; omega)
    have hu : (u : Int) ≤ 18446744073709551615 := by have := HR.1; omega
    have hc : wr.cell? ⟨w.heap.size, p - 1, none⟩ = some (.int .u8 0) := by rw [HR.2.2.2.1.cell]; exact room_at p lo (by omega)
    have hf : wr.frozen? ⟨w.heap.size, p - 1, none⟩ = false := HR.2.2.2.1.frozen _
    by_cases hz : u < 10
    · have hq := HR.last hp1 (Nat.le_refl _) hz
      have HRR := hide HR; clear HR
      have hl19 := (decs_len 18 m (by have := HM.out; omega)).1
      obtain ⟨q, rfl⟩ : ∃ q, p = q + 1 + 1 := ⟨p - 2, by have := hq.2.2; omega⟩
      rw [Nat.add_sub_cancel] at hq hc hf
      have hlt : w.heap.size < wr.heap.size := HRR.out.2.2.2.1.lt
      have hc2 : (wr.setCell ⟨w.heap.size, q + 1, none⟩ (.int .u8 (48 + (u : Int) % 10))).cell? ⟨w.heap.size, q, none⟩ = some (.int .u8 0) := by rw [hq.1.cell]; exact room_at (q + 1) _ (by omega)
      have hf2 : (wr.setCell ⟨w.heap.size, q + 1, none⟩ (.int .u8 (48 + (u : Int) % 10))).frozen? ⟨w.heap.size, q, none⟩ = false := hq.1.frozen _
      have hcp := copy_dash (m := (decs m).length + 1) (ty := 3) (by omega) hc2 hf2
      have hb2 : Blk ((wr.setCell ⟨w.heap.size, q + 1, none⟩ (.int .u8 (48 + (u : Int) % 10))).setCell ⟨w.heap.size, q, none⟩ (.int .u8 45)) w.heap.size 213 (room q (45 :: decs m)) := by
        rw [show room q (45 :: decs m) = room (q + 1 - 1) (45 :: decs m) from rfl, ← room_set (q + 1) (decs m) (by omega) 45]
        exact hq.1.set_ _ _
      have hbel := hq.2.1.setCell (p := ⟨w.heap.size, q, none⟩) (Nat.le_refl _) (.int .u8 45)
      have hcv := conv_str 119 9 5 Tryz.underlying119 Tryz.underlying5 Tryz.underlying9 (c := (decs m).length + 1) (room_reads (n := (decs m).length + 1) hb2 rfl)
      have hsl := fun W => slice_room W w.heap.size q ((decs m).length + 1) (by have := hq.2.2; omega) (by have := hq.2.2; omega)
      clear hc2 hf2 hb2
      have HQ := hide hbel; clear hq hbel
      have HZ : ((u : Int) / 10 == 0) = true := by simp; omega
      go_wp2_with (at_builtin; refine Lib.wpList_copy_run _ rfl _ _ 119 9 rfl _ _ rfl rfl hcp ?_)
      go_ret
      exact ⟨rfl, HQ.out⟩
    · have HQ := hide (HR.put hp1 (Nat.le_refl _) hz)
      have HRR := hide HR; clear HR
      have HZ : ((u : Int) / 10 == 0) = false := by simp; omega
      go_wp2
      go_roundw
      case rel => exact ⟨p - 1, u / 10, _, by go_num, by go_num, HQ.out⟩
      case measure => simp [intOf]; omega

theorem print_any (n : Int) (w : World) (h0 : -9223372036854775808 ≤ n) (h1 : n ≤ 9223372036854775807) :
    Calls Tryz.prog 129 #[.int .i64 n] w fun e w' => e = .returned (.string ⟨(pInt n).toArray⟩) ∧ Below w.heap.size w w' := by
  by_cases h : n < 0
  · obtain ⟨m, rfl⟩ : ∃ m : Nat, n = -(m : Int) := ⟨n.natAbs, by omega⟩
    rw [show pInt (-(m : Int)) = 45 :: decs m by unfold pInt; rw [if_pos h]; simp]
    exact print_neg m w (by omega) (by omega)
  · obtain ⟨m, rfl⟩ := Int.eq_ofNat_of_zero_le (show 0 ≤ n by omega)
    rw [show pInt (m : Int) = decs m by unfold pInt; rw [if_neg h]; simp]
    exact print_pos m w (by omega)
end Go.Proofs.YtnepogddjinpoaaGreatDoor

namespace Go.Proofs.YtnepogddjinpoaaGreatDoor
open Go.RowKit
set_option linter.unusedVariables false

/-- The page's digits, cut out of their text. -/
def tens : List UInt8 := [48, 49, 50, 51, 52, 53, 54, 55, 56, 57]
theorem tens_cut (d : Nat) (h : d < 10) : (⟨tens.toArray⟩ : ByteArray).extract d (d + 1) = ⟨[dig d].toArray⟩ := by
  rw [Lib.extract_eq]
  show ByteArray.mk ((tens.drop d).take (d + 1 - d)).toArray = _
  have : (tens.drop d).take (d + 1 - d) = [dig d] := by
    revert h
    revert d
    decide
  rw [this]

def RefPrintRel (U u : Nat) (lo : List UInt8) : Prop := u ≤ 18446744073709551615 ∧ decs U = decs u ++ lo
theorem RefPrintRel.len {U u lo} (h : RefPrintRel U u lo) (hU : U ≤ 18446744073709551615) : lo.length ≤ 19 := by
  have a := decs_len20 U hU
  have b := (decs_len20 u h.1).2
  rw [h.2, List.length_append] at a
  omega

theorem conv_neg64 (m : Nat) (h0 : 1 ≤ m) (h1 : m ≤ 9223372036854775808) : ∃ X : Int, (∀ W, (convert 3 163 (.int .i64 (-(m : Int)))).run Tryz.prog W = .ok (.int .u64 X) W) ∧ IntKind.u64.wrap (-X) = (m : Int) := by
  refine ⟨-(m : Int) + 18446744073709551616, fun W => ?_, ?_⟩
  · have e : IntKind.u64.wrap (-(m : Int)) = -(m : Int) + 18446744073709551616 := by simp [IntKind.wrap, IntKind.bits, IntKind.signed]; omega
    go_simp
  · simp [IntKind.wrap, IntKind.bits, IntKind.signed]; omega

set_option maxHeartbeats 400000 in
set_option maxRecDepth 100000 in
theorem refPrint_pos (n : Nat) (w : World) (h2 : n ≤ 9223372036854775807) :
    Calls Tryz.prog 86 #[.int .i64 n] w fun e w' => e = .returned (.string ⟨(decs n).toArray⟩) ∧ w = w' := by
  have hn : ¬ (n : Int) < 0 := by omega
  go_enter Tryz.func86, Tryz.ntmps86
  go_wp2
  go_loop [3, 4] (fun v o => ∃ (u : Nat) (lo : List UInt8), v = .int .u64 (u : Int) ∧ o = .string ⟨lo.toArray⟩ ∧ RefPrintRel n u lo)
    (fun v _ => (intOf v).toNat)
  case atStart => exact ⟨n, [], rfl, rfl, by omega, by simp⟩
  case round =>
    obtain ⟨u, lo, rfl, rfl, HR⟩ := hrel
    have hl := HR.len (by omega)
    have hu : (u : Int) ≤ 18446744073709551615 := by have := HR.1; omega
    by_cases hz : (10 : Int) ≤ (u : Int)
    · have hx := tens_cut (u % 10) (by omega)
      have hc := fun W => run_cat [dig (u % 10)] lo (by simp; omega) W
      have HN : Hid (RefPrintRel n (u / 10) (dig (u % 10) :: lo)) := ⟨by omega, by rw [HR.2, decs_big u (by omega)]; simp⟩
      have HRR := hide HR; clear HR
      unfold tens at hx
      go_wp2
      go_round
      case rel => exact ⟨u / 10, dig (u % 10) :: lo, by go_num, by first | rfl | simp, HN⟩
      case measure => simp [intOf]; omega
    · have hx := tens_cut u (by omega)
      have hc := fun W => run_cat [dig u] lo (by simp; omega) W
      have HN : Hid ([dig u] ++ lo = decs n) := by rw [HR.2, decs_small u (by omega)]; rfl
      have HRR := hide HR; clear HR
      have hu2 : (u : Int) ≤ 9 := by omega
      clear hu
      unfold tens at hx
      go_wp2
      go_ret
      exact ⟨ret_str HN, rfl⟩

set_option maxHeartbeats 400000 in
set_option maxRecDepth 100000 in
theorem refPrint_neg (m : Nat) (w : World) (h0 : 1 ≤ m) (h1 : m ≤ 9223372036854775808) :
    Calls Tryz.prog 86 #[.int .i64 (-(m : Int))] w fun e w' => e = .returned (.string ⟨(45 :: decs m).toArray⟩) ∧ w = w' := by
  obtain ⟨X, hX1, hX2⟩ := conv_neg64 m h0 h1
  have hn : -(m : Int) < 0 := by omega
  have HM := hide h1; clear h1
  go_enter Tryz.func86, Tryz.ntmps86
  go_wp2
  have HX1 := hide hX1; have HX2 := hide hX2; clear hX1 hX2
  go_loop [3, 4] (fun v o => ∃ (u : Nat) (lo : List UInt8), v = .int .u64 (u : Int) ∧ o = .string ⟨lo.toArray⟩ ∧ RefPrintRel m u lo)
    (fun v _ => (intOf v).toNat)
  case atStart => exact ⟨m, [], rfl, rfl, by have := HM.out; omega, by simp⟩
  case round =>
    obtain ⟨u, lo, rfl, rfl, HR⟩ := hrel
    have hl := HR.len (by have := HM.out; omega)
    have hu : (u : Int) ≤ 18446744073709551615 := by have := HR.1; omega
    by_cases hz : (10 : Int) ≤ (u : Int)
    · have hx := tens_cut (u % 10) (by omega)
      have hc := fun W => run_cat [dig (u % 10)] lo (by simp; omega) W
      have HN : Hid (RefPrintRel m (u / 10) (dig (u % 10) :: lo)) := ⟨by omega, by rw [HR.2, decs_big u (by omega)]; simp⟩
      have HRR := hide HR; clear HR
      unfold tens at hx
      go_wp2
      go_round
      case rel => exact ⟨u / 10, dig (u % 10) :: lo, by go_num, by first | rfl | simp, HN⟩
      case measure => simp [intOf]; omega
    · have hx := tens_cut u (by omega)
      have hc := fun W => run_cat [dig u] lo (by simp; omega) W
      have HN : Hid (45 :: ([dig u] ++ lo) = 45 :: decs m) := by rw [HR.2, decs_small u (by omega)]; rfl
      have hd := fun W => run_cat [45] ([dig u] ++ lo) (by simp; omega) W
      have HRR := hide HR; clear HR
      have hu2 : (u : Int) ≤ 9 := by omega
      clear hu
      unfold tens at hx
      go_wp2
      go_ret
      exact ⟨ret_str HN, rfl⟩

theorem refPrint_any (n : Int) (w : World) (h0 : -9223372036854775808 ≤ n) (h1 : n ≤ 9223372036854775807) :
    Calls Tryz.prog 86 #[.int .i64 n] w fun e w' => e = .returned (.string ⟨(pInt n).toArray⟩) ∧ w = w' := by
  by_cases h : n < 0
  · obtain ⟨m, rfl⟩ : ∃ m : Nat, n = -(m : Int) := ⟨n.natAbs, by omega⟩
    rw [show pInt (-(m : Int)) = 45 :: decs m by unfold pInt; rw [if_pos h]; simp]
    exact refPrint_neg m w (by omega) (by omega)
  · obtain ⟨m, rfl⟩ := Int.eq_ofNat_of_zero_le (show 0 ≤ n by omega)
    rw [show pInt (m : Int) = decs m by unfold pInt; rw [if_neg h]; simp]
    exact refPrint_pos m w (by omega)
end Go.Proofs.YtnepogddjinpoaaGreatDoor

namespace Go.Proofs.YtnepogddjinpoaaGreatDoor
open Go.RowKit
set_option linter.unusedVariables false
set_option linter.unusedSimpArgs false

theorem name_codeC {P : Program} {c : Code} {Q : Exit → Act → World → Prop} {a : Act} {w : World} (h : ∀ W, w = W → c.wp P Q a W) : c.wp P Q a w := h w rfl
theorem catP (a b : List UInt8) : (⟨a.toArray⟩ : ByteArray) ++ ⟨b.toArray⟩ = ⟨(a ++ b).toArray⟩ := mkAppP a b
set_option maxRecDepth 100000 in
theorem cPrint_low (k i : Int) (s : ByteArray) (a : Option Addr) (n c : Nat) (a2 : Option Addr) (n2 c2 : Nat) (t : List UInt8) (w : World) (h : (k = 0 ∧ t = [110, 117, 108, 108]) ∨ (k = 1 ∧ t = [102, 97, 108, 115, 101]) ∨ (k = 2 ∧ t = [116, 114, 117, 101])) :
    Calls Tryz.prog 58 #[.agg (vCells k i s a n c a2 n2 c2)] w fun e w' => e = .returned (.string ⟨t.toArray⟩) ∧ Below w.heap.size w w' := by
  rcases h with ⟨rfl, rfl⟩ | ⟨rfl, rfl⟩ | ⟨rfl, rfl⟩
  all_goals
    go_enter Tryz.func58, Tryz.ntmps58
    go_wp2_with fail
    go_ret
    refine ⟨rfl, ?_⟩
    refine name_it (C := fun W => Below w.heap.size w W) fun W hW => ?_
    have C1 : Chg [] w W := by subst hW; (repeat' (first | with_reducible exact Chg.refl _ _ | with_reducible refine Chg.alloc ?_ _ | with_reducible refine Chg.drew ?_ | with_reducible refine Chg.drewN ?_ _ | with_reducible refine Chg.set_ ?_ _ _ (by first | (simp; done) | (simp; omega) | omega)))
    exact C1.bel
set_option maxRecDepth 100000 in
theorem cPrint_int (i : Int) (s : ByteArray) (a : Option Addr) (n c : Nat) (a2 : Option Addr) (n2 c2 : Nat) (w : World) (lo : -9223372036854775808 ≤ i) (hi : i ≤ 9223372036854775807) :
    Calls Tryz.prog 58 #[.agg (vCells 3 i s a n c a2 n2 c2)] w fun e w' => e = .returned (.string ⟨(pInt i).toArray⟩) ∧ Below w.heap.size w w' := by
  have cP := hide (fun W => refPrint_any i W lo hi)
  go_enter Tryz.func58, Tryz.ntmps58
  go_wp2_with fail
  refine name_world fun W hW => ?_
  have C1 : Chg [] w W := by subst hW; (repeat' (first | with_reducible exact Chg.refl _ _ | with_reducible refine Chg.alloc ?_ _ | with_reducible refine Chg.drew ?_ | with_reducible refine Chg.drewN ?_ _ | with_reducible refine Chg.set_ ?_ _ _ (by first | (simp; done) | (simp; omega) | omega)))
  clear hW
  refine (cP.out W).mono ?_
  rintro e w1 ⟨rfl, rfl⟩
  go_wp2_with fail
  go_ret
  exact ⟨rfl, C1.bel⟩
set_option maxRecDepth 100000 in
theorem cPrint_else (k i : Int) (s : ByteArray) (a : Option Addr) (n c : Nat) (a2 : Option Addr) (n2 c2 : Nat) (w : World) (h : ¬ k = 0 ∧ ¬ k = 1 ∧ ¬ k = 2 ∧ ¬ k = 3 ∧ ¬ k = 5 ∧ ¬ k = 6) :
    Calls Tryz.prog 58 #[.agg (vCells k i s a n c a2 n2 c2)] w fun e w' => e = .returned (.string s) ∧ Below w.heap.size w w' := by
  obtain ⟨h0, h1, h2, h3, h5, h6⟩ := h
  have e0 : (k == 0) = false := by simpa using h0
  have e1 : (k == 1) = false := by simpa using h1
  have e2 : (k == 2) = false := by simpa using h2
  have e3 : (k == 3) = false := by simpa using h3
  have e5 : (k == 5) = false := by simpa using h5
  have e6 : (k == 6) = false := by simpa using h6
  go_enter Tryz.func58, Tryz.ntmps58
  go_wp2_with fail
  go_ret
  refine ⟨rfl, ?_⟩
  refine name_it (C := fun W => Below w.heap.size w W) fun W hW => ?_
  have C1 : Chg [] w W := by subst hW; (repeat' (first | with_reducible exact Chg.refl _ _ | with_reducible refine Chg.alloc ?_ _ | with_reducible refine Chg.drew ?_ | with_reducible refine Chg.drewN ?_ _ | with_reducible refine Chg.set_ ?_ _ _ (by first | (simp; done) | (simp; omega) | omega)))
  exact C1.bel
set_option maxHeartbeats 2000000 in
set_option maxRecDepth 100000 in
theorem cPrint_list (n : Nat) (i : Int) (s : ByteArray) (U : World → Nat → Prop) (hU : ∀ w w' b, Below w.heap.size w w' → b < w.heap.size → U w b → U w' b) (a : Option Addr) (l : List (VT n)) (c : Nat) (a2 : Option Addr) (n2 c2 : Nat) (w : World)
    (hL : ValsAt U w (IsV U w n) a l) (hlen : l.length ≤ 1048576) (hb : (bodyFrom (fun _ => []) 0 (l.map (printV n))).length ≤ 100000000)
    (hP : ∀ (v : Value) (x : VT n) (W : World), x ∈ l → IsV U W n v x → Calls Tryz.prog 58 #[v] W fun e w' => e = .returned (.string ⟨(printV n x).toArray⟩) ∧ Below W.heap.size W w') :
    Calls Tryz.prog 58 #[.agg (vCells 5 i s a l.length c a2 n2 c2)] w fun e w' => e = .returned (.string ⟨([91] ++ bodyFrom (fun _ => []) 0 (l.map (printV n)) ++ [93]).toArray⟩) ∧ Below w.heap.size w w' := by
  have HL := hide hL; have HP := hide hP; have HB := hide hb
  clear hL hP hb
  go_enter Tryz.func58, Tryz.ntmps58
  go_wp2_with fail
  refine name_codeC fun W hW => ?_
  have C1 : Chg [] w W := by subst hW; (repeat' (first | with_reducible exact Chg.refl _ _ | with_reducible refine Chg.alloc ?_ _ | with_reducible refine Chg.drew ?_ | with_reducible refine Chg.drewN ?_ _ | with_reducible refine Chg.set_ ?_ _ _ (by first | (simp; done) | (simp; omega) | omega)))
  have K : Blk W w.heap.size 26 (vCells 5 i s a l.length c a2 n2 c2) := by subst hW; (repeat' (first | with_reducible exact Blk.new_ (by first | rfl | (simp; done) | (simp; omega)) | with_reducible refine Blk.alloc_ ?_ | with_reducible refine Blk.drew ?_ | with_reducible refine Blk.drewN ?_ _ | with_reducible refine Blk.far_ ?_ (by first | (simp; done) | (simp; omega) | omega) | with_reducible apply Blk.set_eq | rfl))
  have HC1 := hide C1; have HK := hide K
  clear hW K C1
  go_loopw [3, 4] (fun tv iv wr => ∃ (j : Nat) (t : List UInt8), iv = .int .i64 (j : Int) ∧ tv = .string ⟨t.toArray⟩ ∧ j ≤ l.length ∧ Hid (t = bodyFrom (fun _ => []) 0 ((l.map (printV n)).take j)) ∧ Hid (Below W.heap.size W wr)) (fun _ iv _ => l.length - (intOf iv).toNat)
  case atStart => exact ⟨0, [], rfl, rfl, Nat.zero_le _, rfl, Below.refl _ _⟩
  case round =>
    obtain ⟨j, t, rfl, rfl, hjl, ht, hJ⟩ := hrel
    have KA := HK.out.chg (Chg.of_below (S := []) hJ.out) (by simp)
    have k0 := KA.cell 0; have k1 := KA.cell 1; have k2 := KA.cell 2; have k3 := KA.cell 3; have k4 := KA.cell 4; simp at k0 k1 k2 k3 k4
    have lA := KA.lt
    clear KA
    by_cases hlt : j < l.length
    · obtain ⟨x, hx⟩ : ∃ x, l[j]? = some x := ⟨_, List.getElem?_eq_getElem hlt⟩
      obtain ⟨b, off, rfl, hb, hu, kx, ix, sx, ax, nx, cx, bx, n2x, c2x, h5, hR⟩ := HL.out j x hx
      have hbw : Below w.heap.size w wr := HC1.out.bel.trans (hJ.out.mono HC1.out.size)
      obtain ⟨g0, g1, g2, g3, g4⟩ := h5.on (hbw.block b hb)
      have hbr : b < wr.heap.size := Nat.lt_of_lt_of_le hb hbw.size
      have cP := hide (HP.out _ x wr (List.mem_of_getElem? hx) (IsV.on (Stays.of_below hbw fun b h => hU _ _ b hbw h) n _ _ hR))
      have hpx : (l.map (printV n))[j]? = some (printV n x) := by rw [List.getElem?_map, hx]; rfl
      have htk := bodyFrom_take (fun _ => []) hpx
      have hle := bodyFrom_le (fun _ => []) (l.map (printV n)) (j + 1) 0
      have hnx := hide htk
      have hln : (bodyFrom (fun _ => []) 0 ((l.map (printV n)).take (j + 1))).length = t.length + ((if j = 0 then ([] : List UInt8) else [32]).length + 0 + (printV n x).length) := by
        rw [htk, ← ht.out]; simp only [List.length_append, List.length_nil]
      have hB := HB.out
      have hBW := hide hbw
      have HLT := hide hlt
      have hji : (j : Int) < (l.length : Int) := by omega
      have hi9 : j < 1048576 := by omega
      rcases Nat.eq_zero_or_pos j with h0 | h0
      · subst h0
        have hz0 : decide ((0 : Int) < ((0 : Nat) : Int)) = false := rfl
        simp only [Nat.zero_mul, Nat.add_zero] at g0 g1 g2 g3 g4
        have hs2 : ¬ (9223372036854775807 < t.length + (printV n x).length) := by
          rw [if_pos rfl, List.length_nil] at hln; omega
        clear htk hle hln hB hbw h5 hR hpx hx hjl hlt hu
        go_wp2_with fail
        refine cP.out.mono ?_
        rintro e w1 ⟨rfl, hb1⟩
        go_wp2_with fail
        have hlt := HLT.out
        go_roundw
        case rel => exact ⟨1, t ++ printV n x, by go_num, by rw [catP], by omega, hide (by rw [hnx.out, ← ht.out]; simp), hide (hJ.out.trans (hb1.mono hJ.out.size))⟩
        case measure => simp [intOf]; omega
      · have e0 : decide ((0 : Int) < (j : Int)) = true := by simp; omega
        have hj0 : ¬ j = 0 := by omega
        have hs1 : ¬ (9223372036854775807 < t.length + 1) := by rw [if_neg hj0, List.length_singleton] at hln; omega
        have hs2 : ¬ (9223372036854775807 < t.length + 1 + (printV n x).length) := by rw [if_neg hj0, List.length_singleton] at hln; omega
        have HJ0 := hide hj0
        clear htk hle hln hB hbw h5 hR hpx hx hjl hlt hu hj0
        go_wp2_with fail
        refine cP.out.mono ?_
        rintro e w1 ⟨rfl, hb1⟩
        go_wp2_with fail
        have hlt := HLT.out
        go_roundw
        case rel => exact ⟨j + 1, t ++ [32] ++ printV n x, by go_num, by rw [show (⟨#[32]⟩ : ByteArray) = ⟨([32] : List UInt8).toArray⟩ from rfl, catP, catP], by omega, hide (by rw [hnx.out, ← ht.out]; simp [HJ0.out]), hide (hJ.out.trans (hb1.mono hJ.out.size))⟩
        case measure => simp [intOf]; omega
    · obtain rfl : j = l.length := by omega
      have hif : decide ((l.length : Int) < (l.length : Int)) = false := by simp
      have hte := hide (show t = bodyFrom (fun _ => []) 0 (l.map (printV n)) by rw [ht.out, List.take_of_length_le (by simp)])
      have hc1 : ¬ (9223372036854775807 < 1 + t.length) := by have := HB.out; have := congrArg List.length hte.out; omega
      have hc2 : ¬ (9223372036854775807 < 1 + t.length + 1) := by have := HB.out; have := congrArg List.length hte.out; omega
      clear hjl hlt
      go_wp2_with fail
      go_ret
      have hfin : (⟨#[91]⟩ : ByteArray) ++ ⟨t.toArray⟩ ++ ⟨#[93]⟩ = ⟨([91] ++ bodyFrom (fun _ => []) 0 (l.map (printV n)) ++ [93]).toArray⟩ := by
        rw [← hte.out, show (⟨#[91]⟩ : ByteArray) = ⟨([91] : List UInt8).toArray⟩ from rfl, show (⟨#[93]⟩ : ByteArray) = ⟨([93] : List UInt8).toArray⟩ from rfl, catP, catP]
      exact ⟨congrArg (fun b => Ending.returned (.string b)) hfin, HC1.out.bel.trans (hJ.out.mono HC1.out.size)⟩
end Go.Proofs.YtnepogddjinpoaaGreatDoor

namespace Go.Proofs.YtnepogddjinpoaaGreatDoor
open Go.RowKit
set_option linter.unusedVariables false
set_option linter.unusedSimpArgs false

set_option maxHeartbeats 2000000 in
set_option maxRecDepth 100000 in
theorem cPrint_rec (n : Nat) (i : Int) (s : ByteArray) (U : World → Nat → Prop) (hU : ∀ w w' b, Below w.heap.size w w' → b < w.heap.size → U w b → U w' b) (a : Option Addr) (l : List (VT n)) (c : Nat) (a2 : Option Addr) (ks : List (List UInt8)) (c2 : Nat) (w : World) (hK : StrsAt U w a2 ks) (hkl : ks.length ≤ 1048576)
    (hL : ValsAt U w (IsV U w n) a l) (hlen : l.length ≤ 1048576) (hb : (bodyFrom (keyAhead ks) 0 (l.map (printV n))).length ≤ 100000000)
    (hP : ∀ (v : Value) (x : VT n) (W : World), x ∈ l → IsV U W n v x → Calls Tryz.prog 58 #[v] W fun e w' => e = .returned (.string ⟨(printV n x).toArray⟩) ∧ Below W.heap.size W w') :
    Calls Tryz.prog 58 #[.agg (vCells 6 i s a l.length c a2 ks.length c2)] w fun e w' => e = .returned (.string ⟨([123] ++ bodyFrom (keyAhead ks) 0 (l.map (printV n)) ++ [125]).toArray⟩) ∧ Below w.heap.size w w' := by
  have HS := hide hK; have HL := hide hL; have HP := hide hP; have HB := hide hb
  clear hL hP hb hK
  go_enter Tryz.func58, Tryz.ntmps58
  go_wp2_with fail
  refine name_codeC fun W hW => ?_
  have C1 : Chg [] w W := by subst hW; (repeat' (first | with_reducible exact Chg.refl _ _ | with_reducible refine Chg.alloc ?_ _ | with_reducible refine Chg.drew ?_ | with_reducible refine Chg.drewN ?_ _ | with_reducible refine Chg.set_ ?_ _ _ (by first | (simp; done) | (simp; omega) | omega)))
  have K : Blk W w.heap.size 26 (vCells 6 i s a l.length c a2 ks.length c2) := by subst hW; (repeat' (first | with_reducible exact Blk.new_ (by first | rfl | (simp; done) | (simp; omega)) | with_reducible refine Blk.alloc_ ?_ | with_reducible refine Blk.drew ?_ | with_reducible refine Blk.drewN ?_ _ | with_reducible refine Blk.far_ ?_ (by first | (simp; done) | (simp; omega) | omega) | with_reducible apply Blk.set_eq | rfl))
  have HC1 := hide C1; have HK := hide K
  clear hW K C1
  go_loopw [3, 4] (fun tv iv wr => ∃ (j : Nat) (t : List UInt8), iv = .int .i64 (j : Int) ∧ tv = .string ⟨t.toArray⟩ ∧ j ≤ l.length ∧ Hid (t = bodyFrom (keyAhead ks) 0 ((l.map (printV n)).take j)) ∧ Hid (Below W.heap.size W wr)) (fun _ iv _ => l.length - (intOf iv).toNat)
  case atStart => exact ⟨0, [], rfl, rfl, Nat.zero_le _, rfl, Below.refl _ _⟩
  case round =>
    obtain ⟨j, t, rfl, rfl, hjl, ht, hJ⟩ := hrel
    have KA := HK.out.chg (Chg.of_below (S := []) hJ.out) (by simp)
    have k0 := KA.cell 0; have k1 := KA.cell 1; have k2 := KA.cell 2; have k3 := KA.cell 3; have k4 := KA.cell 4; simp at k0 k1 k2 k3 k4
    have lA := KA.lt
    clear KA
    by_cases hlt : j < l.length
    · obtain ⟨x, hx⟩ : ∃ x, l[j]? = some x := ⟨_, List.getElem?_eq_getElem hlt⟩
      obtain ⟨b, off, rfl, hb, hu, kx, ix, sx, ax, nx, cx, bx, n2x, c2x, h5, hR⟩ := HL.out j x hx
      have hbw : Below w.heap.size w wr := HC1.out.bel.trans (hJ.out.mono HC1.out.size)
      obtain ⟨g0, g1, g2, g3, g4⟩ := h5.on (hbw.block b hb)
      have hbr : b < wr.heap.size := Nat.lt_of_lt_of_le hb hbw.size
      have cP := hide (HP.out _ x wr (List.mem_of_getElem? hx) (IsV.on (Stays.of_below hbw fun b h => hU _ _ b hbw h) n _ _ hR))
      have hpx : (l.map (printV n))[j]? = some (printV n x) := by rw [List.getElem?_map, hx]; rfl
      have htk := bodyFrom_take (keyAhead ks) hpx
      have hle := bodyFrom_le (keyAhead ks) (l.map (printV n)) (j + 1) 0
      have hnx := hide htk
      have hln : (bodyFrom (keyAhead ks) 0 ((l.map (printV n)).take (j + 1))).length = t.length + ((if j = 0 then ([] : List UInt8) else [32]).length + (keyAhead ks j).length + (printV n x).length) := by
        rw [htk, ← ht.out]; simp only [List.length_append]
      have hB := HB.out
      have hBW := hide hbw
      have HLT := hide hlt
      have hji : (j : Int) < (l.length : Int) := by omega
      have hi9 : j < 1048576 := by omega
      rcases Nat.lt_or_ge j ks.length with hk | hk
      · obtain ⟨y, hy⟩ : ∃ y, ks[j]? = some y := ⟨_, List.getElem?_eq_getElem hk⟩
        obtain ⟨gk, ok, rfl, hgk, _, fk⟩ := HS.out j y hy
        have fk := (cellB (hbw.block gk hgk) _).trans fk
        have hgr : gk < wr.heap.size := Nat.lt_of_lt_of_le hgk hbw.size
        have hke : keyAhead ks j = y ++ [58] := by unfold keyAhead; rw [hy]
        rw [hke] at hnx hln
        simp only [List.length_append, List.length_singleton] at hln
        have hkd : decide ((j : Int) < (ks.length : Int)) = true := by simp; omega
        have hki : (j : Int) < (ks.length : Int) := by omega
        rcases Nat.eq_zero_or_pos j with h0 | h0
        · subst h0
          have hz0 : decide ((0 : Int) < ((0 : Nat) : Int)) = false := rfl
          simp only [Nat.zero_mul, Nat.add_zero] at g0 g1 g2 g3 g4 fk
          rw [if_pos rfl, List.length_nil] at hln
          have hs0 : ¬ (9223372036854775807 < t.length + y.length) := by omega
          have hs1 : ¬ (9223372036854775807 < t.length + y.length + 1) := by omega
          have hs2 : ¬ (9223372036854775807 < t.length + y.length + 1 + (printV n x).length) := by omega
          clear htk hle hln hB hbw h5 hR hpx hx hjl hlt hu
          go_wp2_with fail
          refine cP.out.mono ?_
          rintro e w1 ⟨rfl, hb1⟩
          go_wp2_with fail
          have hlt := HLT.out
          go_roundw
          case rel => exact ⟨1, t ++ y ++ [58] ++ printV n x, by go_num, by rw [show (⟨#[58]⟩ : ByteArray) = ⟨([58] : List UInt8).toArray⟩ from rfl, catP, catP, catP], by omega, hide (by rw [hnx.out, ← ht.out]; simp), hide (hJ.out.trans (hb1.mono hJ.out.size))⟩
          case measure => simp [intOf]; omega
        · have e0 : decide ((0 : Int) < (j : Int)) = true := by simp; omega
          have hj0 : ¬ j = 0 := by omega
          rw [if_neg hj0, List.length_singleton] at hln
          have hs0 : ¬ (9223372036854775807 < t.length + 1) := by omega
          have hs1 : ¬ (9223372036854775807 < t.length + 1 + y.length) := by omega
          have hs2 : ¬ (9223372036854775807 < t.length + 1 + y.length + 1) := by omega
          have hs3 : ¬ (9223372036854775807 < t.length + 1 + y.length + 1 + (printV n x).length) := by omega
          have HJ0 := hide hj0
          clear htk hle hln hB hbw h5 hR hpx hx hjl hlt hu hj0
          go_wp2_with fail
          refine cP.out.mono ?_
          rintro e w1 ⟨rfl, hb1⟩
          go_wp2_with fail
          have hlt := HLT.out
          go_roundw
          case rel => exact ⟨j + 1, t ++ [32] ++ y ++ [58] ++ printV n x, by go_num, by rw [show (⟨#[32]⟩ : ByteArray) = ⟨([32] : List UInt8).toArray⟩ from rfl, show (⟨#[58]⟩ : ByteArray) = ⟨([58] : List UInt8).toArray⟩ from rfl, catP, catP, catP, catP], by omega, hide (by rw [hnx.out, ← ht.out]; simp [HJ0.out]), hide (hJ.out.trans (hb1.mono hJ.out.size))⟩
          case measure => simp [intOf]; omega
      · have hke : keyAhead ks j = [58] := by unfold keyAhead; rw [List.getElem?_eq_none hk]; rfl
        rw [hke] at hnx hln
        simp only [List.length_singleton] at hln
        have hkd : decide ((j : Int) < (ks.length : Int)) = false := by simp; omega
        have hkn : ¬ (j : Int) < (ks.length : Int) := by omega
        rcases Nat.eq_zero_or_pos j with h0 | h0
        · subst h0
          have hz0 : decide ((0 : Int) < ((0 : Nat) : Int)) = false := rfl
          simp only [Nat.zero_mul, Nat.add_zero] at g0 g1 g2 g3 g4
          rw [if_pos rfl, List.length_nil] at hln
          have hs0 : ¬ (9223372036854775807 < t.length + 1) := by omega
          have hs1 : ¬ (9223372036854775807 < t.length + 1 + (printV n x).length) := by omega
          clear htk hle hln hB hbw h5 hR hpx hx hjl hlt hu
          go_wp2_with fail
          refine cP.out.mono ?_
          rintro e w1 ⟨rfl, hb1⟩
          go_wp2_with fail
          have hlt := HLT.out
          go_roundw
          case rel => exact ⟨1, t ++ [58] ++ printV n x, by go_num, by rw [show (⟨#[58]⟩ : ByteArray) = ⟨([58] : List UInt8).toArray⟩ from rfl, catP, catP], by omega, hide (by rw [hnx.out, ← ht.out]; simp), hide (hJ.out.trans (hb1.mono hJ.out.size))⟩
          case measure => simp [intOf]; omega
        · have e0 : decide ((0 : Int) < (j : Int)) = true := by simp; omega
          have hj0 : ¬ j = 0 := by omega
          rw [if_neg hj0, List.length_singleton] at hln
          have hs0 : ¬ (9223372036854775807 < t.length + 1) := by omega
          have hs1 : ¬ (9223372036854775807 < t.length + 1 + 1) := by omega
          have hs2 : ¬ (9223372036854775807 < t.length + 1 + 1 + (printV n x).length) := by omega
          have HJ0 := hide hj0
          clear htk hle hln hB hbw h5 hR hpx hx hjl hlt hu hj0
          go_wp2_with fail
          refine cP.out.mono ?_
          rintro e w1 ⟨rfl, hb1⟩
          go_wp2_with fail
          have hlt := HLT.out
          go_roundw
          case rel => exact ⟨j + 1, t ++ [32] ++ [58] ++ printV n x, by go_num, by rw [show (⟨#[32]⟩ : ByteArray) = ⟨([32] : List UInt8).toArray⟩ from rfl, show (⟨#[58]⟩ : ByteArray) = ⟨([58] : List UInt8).toArray⟩ from rfl, catP, catP, catP], by omega, hide (by rw [hnx.out, ← ht.out]; simp [HJ0.out]), hide (hJ.out.trans (hb1.mono hJ.out.size))⟩
          case measure => simp [intOf]; omega
    · obtain rfl : j = l.length := by omega
      have hif : decide ((l.length : Int) < (l.length : Int)) = false := by simp
      have hte := hide (show t = bodyFrom (keyAhead ks) 0 (l.map (printV n)) by rw [ht.out, List.take_of_length_le (by simp)])
      have hc1 : ¬ (9223372036854775807 < 1 + t.length) := by have := HB.out; have := congrArg List.length hte.out; omega
      have hc2 : ¬ (9223372036854775807 < 1 + t.length + 1) := by have := HB.out; have := congrArg List.length hte.out; omega
      clear hjl hlt
      go_wp2_with fail
      go_ret
      have hfin : (⟨#[123]⟩ : ByteArray) ++ ⟨t.toArray⟩ ++ ⟨#[125]⟩ = ⟨([123] ++ bodyFrom (keyAhead ks) 0 (l.map (printV n)) ++ [125]).toArray⟩ := by
        rw [← hte.out, show (⟨#[123]⟩ : ByteArray) = ⟨([123] : List UInt8).toArray⟩ from rfl, show (⟨#[125]⟩ : ByteArray) = ⟨([125] : List UInt8).toArray⟩ from rfl, catP, catP]
      exact ⟨congrArg (fun b => Ending.returned (.string b)) hfin, HC1.out.bel.trans (hJ.out.mono HC1.out.size)⟩
/-- The page's Print, of any value. -/
theorem cPrint_any : ∀ (n : Nat) (U : World → Nat → Prop) (hU : ∀ w w' b, Below w.heap.size w w' → b < w.heap.size → U w b → U w' b) (v : Value) (d : VT n) (w : World), IsV U w n v d → massV n d ≤ 1048576 → NumV n d →
    Calls Tryz.prog 58 #[v] w fun e w' => e = .returned (.string ⟨(printV n d).toArray⟩) ∧ Below w.heap.size w w' := by
  intro n
  induction n with
  | zero => intro U _ v d w h; exact h.elim
  | succ n ih =>
    intro U hU v d w h hms hnm
    have hpl := print_len (n + 1) d hnm
    obtain ⟨k, i, s, l, ks⟩ := d
    obtain ⟨a, c, b, e, rfl, hS, hL⟩ := h.parts
    obtain ⟨hi, hn5⟩ := hnm
    have hn5 : ∀ x ∈ l, NumV n x := hn5
    have hms2 : 1 + s.length + sumBy (fun k => k.length + 1) ks + sumBy (massV n) l ≤ 1048576 := hms
    have hll : l.length ≤ 1048576 := by have := sumBy_len (massV n) (fun x => massV_pos n x) l; omega
    have hkl : ks.length ≤ 1048576 := by have := sumBy_len (fun k : List UInt8 => k.length + 1) (fun k => by omega) ks; omega
    have hP : ∀ (v : Value) (x : VT n) (W : World), x ∈ l → IsV U W n v x → Calls Tryz.prog 58 #[v] W fun e w' => e = .returned (.string ⟨(printV n x).toArray⟩) ∧ Below W.heap.size W w' := fun v x W hx hv => ih U hU v x W hv (by have := sumBy_mem (massV n) l x hx; omega) (hn5 x hx)
    have hpl2 : (printV (n + 1) (⟨k, i, s, l, ks⟩ : VN (VT n))).length ≤ 100000000 := by
      have hms3 : massV (n + 1) (⟨k, i, s, l, ks⟩ : VN (VT n)) ≤ 1048576 := hms
      have hpl3 : (printV (n + 1) (⟨k, i, s, l, ks⟩ : VN (VT n))).length + 4 ≤ 25 * massV (n + 1) (⟨k, i, s, l, ks⟩ : VN (VT n)) := hpl
      omega
    rw [printV_mk] at hpl2 ⊢
    by_cases h0 : k = 0
    · subst h0; exact cPrint_low 0 _ _ _ _ _ _ _ _ _ w (.inl ⟨rfl, rfl⟩)
    by_cases h1 : k = 1
    · subst h1; exact cPrint_low 1 _ _ _ _ _ _ _ _ _ w (.inr (.inl ⟨rfl, rfl⟩))
    by_cases h2 : k = 2
    · subst h2; exact cPrint_low 2 _ _ _ _ _ _ _ _ _ w (.inr (.inr ⟨rfl, rfl⟩))
    by_cases h3 : k = 3
    · subst h3; exact cPrint_int i _ _ _ _ _ _ _ w hi.1 hi.2
    by_cases h5 : k = 5
    · subst h5
      exact cPrint_list n i ⟨s.toArray⟩ U hU a l c b ks.length e w hL hll (by simp at hpl2; omega) hP
    by_cases h6 : k = 6
    · subst h6
      exact cPrint_rec n i ⟨s.toArray⟩ U hU a l c b ks e w hS hkl hL hll (by simp at hpl2; omega) hP
    rw [if_neg h0, if_neg h1, if_neg h2, if_neg h3, if_neg h5, if_neg h6]
    exact cPrint_else k i ⟨s.toArray⟩ a l.length c b ks.length e w ⟨h0, h1, h2, h3, h5, h6⟩
end Go.Proofs.YtnepogddjinpoaaGreatDoor

namespace Go.Proofs.YtnepogddjinpoaaGreatDoor
open Go.RowKit
set_option linter.unusedVariables false
set_option linter.unusedSimpArgs false

/-- Texts with one between, from the j-th on. -/
def sepFrom (sep : List UInt8) : Nat → List (List UInt8) → List UInt8
  | _, [] => []
  | j, p :: r => (if j = 0 then [] else sep) ++ p ++ sepFrom sep (j + 1) r
theorem sepFrom_snoc (sep : List UInt8) : ∀ (l : List (List UInt8)) (j : Nat) (p : List UInt8), sepFrom sep j (l ++ [p]) = sepFrom sep j l ++ ((if j + l.length = 0 then [] else sep) ++ p) := by
  intro l
  induction l with
  | nil => intro j p; simp [sepFrom]
  | cons x l ih =>
    intro j p
    simp only [List.cons_append, sepFrom, ih, List.length_cons]
    have h1 : ¬ (j + 1 + l.length = 0) := by omega
    have h2 : ¬ (j + (l.length + 1) = 0) := by omega
    rw [if_neg h1, if_neg h2]
    simp
theorem sepFrom_take (sep : List UInt8) {l : List (List UInt8)} {j : Nat} {p : List UInt8} (h : l[j]? = some p) : sepFrom sep 0 (l.take (j + 1)) = sepFrom sep 0 (l.take j) ++ ((if j = 0 then [] else sep) ++ p) := by
  have hj := (List.getElem?_eq_some_iff.1 h).1
  have e : (l.take j).length = j := by rw [List.length_take]; omega
  rw [List.take_add_one, h]
  simp only [Option.toList_some]
  rw [sepFrom_snoc, e, Nat.zero_add]
theorem sepFrom_le (sep : List UInt8) : ∀ (l : List (List UInt8)) (j i : Nat), (sepFrom sep i (l.take j)).length ≤ (sepFrom sep i l).length := by
  intro l
  induction l with
  | nil => intro j i; simp
  | cons x l ih =>
    intro j i
    cases j with
    | zero => simp [sepFrom]
    | succ j =>
      simp only [List.take_succ_cons, sepFrom, List.length_append]
      have := ih j (i + 1)
      omega
theorem sepFrom_len (sep : List UInt8) : ∀ (l : List (List UInt8)) (i : Nat), (sepFrom sep i l).length ≤ sumBy (fun p => p.length) l + l.length * sep.length := by
  intro l
  induction l with
  | nil => intro i; simp [sepFrom]
  | cons x l ih =>
    intro i
    have h := ih (i + 1)
    have h2 : (if i = 0 then ([] : List UInt8) else sep).length ≤ sep.length := by split <;> simp
    simp only [sepFrom, List.length_append, sumBy, List.length_cons, Nat.succ_mul]
    omega
set_option maxHeartbeats 2000000 in
set_option maxRecDepth 100000 in
theorem cPrints (n : Nat) (U : World → Nat → Prop) (hU : ∀ w w' b, Below w.heap.size w w' → b < w.heap.size → U w b → U w' b) (a : Option Addr) (l : List (VT n)) (c : Nat) (sep : List UInt8) (w : World)
    (hL : ValsAt U w (IsV U w n) a l) (hlen : l.length ≤ 1048576) (hb : (sepFrom sep 0 (l.map (printV n))).length ≤ 1000000000000000000)
    (hP : ∀ (v : Value) (x : VT n) (W : World), x ∈ l → IsV U W n v x → Calls Tryz.prog 58 #[v] W fun e w' => e = .returned (.string ⟨(printV n x).toArray⟩) ∧ Below W.heap.size W w') :
    Calls Tryz.prog 44 #[.slice a l.length c, .string ⟨sep.toArray⟩] w fun e w' => e = .returned (.string ⟨(sepFrom sep 0 (l.map (printV n))).toArray⟩) ∧ Below w.heap.size w w' := by
  have HL := hide hL; have HP := hide hP; have HB := hide hb
  clear hL hP hb
  go_enter Tryz.func44, Tryz.ntmps44
  go_wp2_with fail
  go_loopw [5, 6] (fun tv iv wr => ∃ (j : Nat) (t : List UInt8), iv = .int .i64 (j : Int) ∧ tv = .string ⟨t.toArray⟩ ∧ j ≤ l.length ∧ Hid (t = sepFrom sep 0 ((l.map (printV n)).take j)) ∧ Hid (Below w.heap.size w wr)) (fun _ iv _ => l.length - (intOf iv).toNat)
  case atStart => exact ⟨0, [], rfl, rfl, Nat.zero_le _, rfl, Below.refl _ _⟩
  case round =>
    obtain ⟨j, t, rfl, rfl, hjl, ht, hJ⟩ := hrel
    by_cases hlt : j < l.length
    · obtain ⟨x, hx⟩ : ∃ x, l[j]? = some x := ⟨_, List.getElem?_eq_getElem hlt⟩
      obtain ⟨b, off, rfl, hb, hu, kx, ix, sx, ax, nx, cx, bx, n2x, c2x, h5, hR⟩ := HL.out j x hx
      have hbw := hJ.out
      obtain ⟨g0, g1, g2, g3, g4⟩ := h5.on (hbw.block b hb)
      have hbr : b < wr.heap.size := Nat.lt_of_lt_of_le hb hbw.size
      have cP := hide (HP.out _ x wr (List.mem_of_getElem? hx) (IsV.on (Stays.of_below hbw fun b h => hU _ _ b hbw h) n _ _ hR))
      have hpx : (l.map (printV n))[j]? = some (printV n x) := by rw [List.getElem?_map, hx]; rfl
      have htk := sepFrom_take sep hpx
      have hle := sepFrom_le sep (l.map (printV n)) (j + 1) 0
      have hnx := hide htk
      have hln : (sepFrom sep 0 ((l.map (printV n)).take (j + 1))).length = t.length + ((if j = 0 then ([] : List UInt8) else sep).length + (printV n x).length) := by
        rw [htk, ← ht.out]; simp only [List.length_append]
      have hB := HB.out
      have HLT := hide hlt
      have hji : (j : Int) < (l.length : Int) := by omega
      have hi9 : j < 1048576 := by omega
      rcases Nat.eq_zero_or_pos j with h0 | h0
      · subst h0
        have hz0 : decide ((0 : Int) < ((0 : Nat) : Int)) = false := rfl
        simp only [Nat.zero_mul, Nat.add_zero] at g0 g1 g2 g3 g4
        rw [if_pos rfl, List.length_nil] at hln
        have hs2 : ¬ (9223372036854775807 < t.length + (printV n x).length) := by omega
        clear htk hle hln hB hbw h5 hR hpx hx hjl hlt hu
        go_wp2_with fail
        refine cP.out.mono ?_
        rintro e w1 ⟨rfl, hb1⟩
        go_wp2_with fail
        have hlt := HLT.out
        go_roundw
        case rel => exact ⟨1, t ++ printV n x, by go_num, by rw [catP], by omega, hide (by rw [hnx.out, ← ht.out]; simp), hide (below_step hJ.out hb1)⟩
        case measure => simp [intOf]; omega
      · have e0 : decide ((0 : Int) < (j : Int)) = true := by simp; omega
        have hj0 : ¬ j = 0 := by omega
        rw [if_neg hj0] at hln
        have hs1 : ¬ (9223372036854775807 < t.length + sep.length) := by omega
        have hs2 : ¬ (9223372036854775807 < t.length + sep.length + (printV n x).length) := by omega
        have HJ0 := hide hj0
        clear htk hle hln hB hbw h5 hR hpx hx hjl hlt hu hj0
        go_wp2_with fail
        refine cP.out.mono ?_
        rintro e w1 ⟨rfl, hb1⟩
        go_wp2_with fail
        have hlt := HLT.out
        go_roundw
        case rel => exact ⟨j + 1, t ++ sep ++ printV n x, by go_num, by rw [catP, catP], by omega, hide (by rw [hnx.out, ← ht.out]; simp [HJ0.out]), hide (below_step hJ.out hb1)⟩
        case measure => simp [intOf]; omega
    · obtain rfl : j = l.length := by omega
      have hif : decide ((l.length : Int) < (l.length : Int)) = false := by simp
      have hte := hide (show t = sepFrom sep 0 (l.map (printV n)) by rw [ht.out, List.take_of_length_le (by simp)])
      clear hjl hlt
      go_wp2_with fail
      go_ret
      exact ⟨by rw [← hte.out]; rfl, hJ.out⟩
end Go.Proofs.YtnepogddjinpoaaGreatDoor

namespace Go.Proofs.YtnepogddjinpoaaGreatDoor
open Go.RowKit
set_option linter.unusedVariables false
set_option linter.unusedSimpArgs false

/-- A value as one of a greater depth. -/
def liftV : (n : Nat) → VT n → VT (n + 1)
  | 0, x => x.elim
  | n + 1, d => (⟨VN.k d, VN.i d, VN.s d, (VN.l d).map (liftV n), VN.ks d⟩ : VN (VT (n + 1)))
theorem lift_isV {U : World → Nat → Prop} {w : World} : ∀ (n : Nat) (v : Value) (d : VT n), IsV U w n v d → IsV U w (n + 1) v (liftV n d) := by
  intro n
  induction n with
  | zero => intro v d h; exact h.elim
  | succ n ih =>
    intro v d h
    obtain ⟨a, c, a2, c2, rfl, hS, hL⟩ := h.parts
    refine ⟨a, c, a2, c2, ?_, hS, ?_⟩
    · show valV _ _ _ _ (VN.l d).length _ _ _ _ = valV _ _ _ _ ((VN.l d).map (liftV n)).length _ _ _ _
      rw [List.length_map]; rfl
    · intro j x hx
      have hx : ((VN.l d).map (liftV n))[j]? = some x := hx
      rw [List.getElem?_map] at hx
      obtain ⟨y, hy, rfl⟩ := Option.map_eq_some_iff.1 hx
      obtain ⟨b, off, ha, hb, hu, k, i, s, a1, n1, c1, a3, n3, c3, h5, hr⟩ := hL j y hy
      exact ⟨b, off, ha, hb, hu, k, i, s, a1, n1, c1, a3, n3, c3, h5, ih _ _ hr⟩
theorem lift_mass : ∀ (n : Nat) (d : VT n), massV (n + 1) (liftV n d) = massV n d := by
  intro n
  induction n with
  | zero => intro d; exact d.elim
  | succ n ih =>
    intro d
    have h : ∀ l : List (VT n), sumBy (massV (n + 1)) (l.map (liftV n)) = sumBy (massV n) l := by
      intro l
      induction l with
      | nil => rfl
      | cons x l ihl => simp only [List.map_cons, sumBy, ih, ihl]
    show 1 + (VN.s d).length + sumBy (fun k => k.length + 1) (VN.ks d) + sumBy (massV (n + 1)) ((VN.l d).map (liftV n)) = 1 + (VN.s d).length + sumBy (fun k => k.length + 1) (VN.ks d) + sumBy (massV n) (VN.l d)
    rw [h]
theorem lift_num : ∀ (n : Nat) (d : VT n), NumV n d → NumV (n + 1) (liftV n d) := by
  intro n
  induction n with
  | zero => intro d _; exact d.elim
  | succ n ih =>
    intro d h
    refine ⟨h.1, fun x hx => ?_⟩
    have hx : x ∈ (VN.l d).map (liftV n) := hx
    obtain ⟨y, hy, rfl⟩ := List.mem_map.1 hx
    exact ih y (h.2 y hy)
section
variable {n : Nat}
abbrev VD (n : Nat) := VN (VT n)
def nullD : VD n := ⟨0, 0, [], [], []⟩
def textD (s : List UInt8) : VD n := ⟨4, 0, s, [], []⟩
def intD (i : Int) : VD n := ⟨3, i, [], [], []⟩
def truthD (b : Bool) : VD n := ⟨if b then 2 else 1, 0, [], [], []⟩
/-- What is told: a value and no error, or an error. -/
abbrev ResD (n : Nat) := Option (VD n) × Int
def isTrue (d : VD n) : Bool := truthC d.k d.i ⟨d.s.toArray⟩ d.l.length
def madeD (s : List UInt8) : ResD n := if 4096 < s.length then (none, 5) else (some (textD s), 0)
def upD (r : Option (VT n) × Int) : ResD n := (r.1.map (liftV n), r.2)
def twoR (name : List UInt8) (a b : VD n) : ResD n :=
  if name = [101, 113] then (some (truthD (eqV (n + 1) a b)), 0)
  else if name = [108, 116] then
    (if a.k = 3 ∧ b.k = 3 then (some (truthD (decide (a.i < b.i))), 0) else if a.k = 4 ∧ b.k = 4 then (some (truthD (Op.bytesLess a.s b.s)), 0) else (none, 13))
  else if name = [97, 110, 100] then (some (if isTrue a then b else a), 0)
  else if name = [111, 114] then (some (if isTrue a then a else b), 0)
  else if name = [100, 101, 102, 97, 117, 108, 116] then (some (if isTrue b then b else a), 0)
  else if name = [105, 110, 100, 101, 120] then
    (if a.k = 5 ∧ b.k = 3 then upD (indexR a b.i) else if a.k = 6 ∧ b.k = 4 then upD (fieldR a b.s) else (none, 13))
  else if a.k = 5 ∧ b.k = 4 then madeD (sepFrom b.s 0 (a.l.map (printV n))) else (none, 13)
def callR (name : List UInt8) (l : List (VD n)) : ResD n :=
  let r := arityB ⟨name.toArray⟩
  if r.2.2 = false then (none, 31)
  else if (l.length : Int) < r.1 ∨ r.2.1 < (l.length : Int) then (none, 3)
  else match l with
    | [] => (none, 3)
    | a :: t =>
      if name = [108, 101, 110] then (let q := lenC a.k ⟨a.s.toArray⟩ a.l.length; if q.2 = 0 then (some (intD q.1), 0) else (none, q.2))
      else if name = [110, 111, 116] then (some (truthD (!isTrue a)), 0)
      else if name = [112, 114, 105, 110, 116] then madeD (sepFrom [32] 0 (l.map (printV (n + 1))))
      else if name = [117, 112, 112, 101, 114] then (if a.k = 4 then (some (textD (a.s.map greatB)), 0) else (none, 13))
      else if name = [108, 111, 119, 101, 114] then (if a.k = 4 then (some (textD (a.s.map smallB)), 0) else (none, 13))
      else match t with
        | [] => (none, 3)
        | b :: _ => twoR name a b
/-- What names stand for. -/
structure EnvD (n : Nat) where
  root : VD n
  dot : VD n
  vars : List (List UInt8 × VD n)
/-- The value of the last variable of a name. -/
def lastOf (name : List UInt8) : List (List UInt8 × VD n) → Option (VD n) → Option (VD n)
  | [], r => r
  | x :: l, r => lastOf name l (if x.1 = name then some x.2 else r)
def pathR : List (List UInt8) → VD n → ResD n
  | [], v => (some v, 0)
  | p :: r, v => match upD (fieldR v p) with
    | (some x, 0) => pathR r x
    | (_, e) => (none, e)
def argR (e : EnvD n) (a : ArgD) : ResD n :=
  if a.k = 1 then pathR a.path e.dot
  else if a.k = 2 then
    (match (if a.nm = [] then some e.root else lastOf a.nm e.vars none) with
    | some v => pathR a.path v
    | none => (none, 31))
  else if a.k = 3 then (some (intD a.i), 0)
  else if a.k = 4 then (some (textD a.s), 0)
  else if a.k = 5 then (some (truthD true), 0)
  else if a.k = 6 then (some (truthD false), 0)
  else if a.k = 7 then (some nullD, 0)
  else (none, 9)
def argsR (e : EnvD n) : List ArgD → Option (List (VD n)) × Int
  | [] => (some [], 0)
  | a :: r => match argR e a with
    | (some v, 0) => (match argsR e r with | (some l, 0) => (some (v :: l), 0) | (_, f) => (none, f))
    | (_, f) => (none, f)
/-- One call, with what the one ahead told. -/
def stepR (e : EnvD n) (c : CallD) (last : Option (VD n)) : ResD n :=
  match argsR e c.args with
  | (some l, 0) =>
    (let l := l ++ last.toList
     if c.nm ≠ [] then callR c.nm l else match l with | [v] => (some v, 0) | _ => (none, 9))
  | (_, f) => (none, f)
def pipeFrom (e : EnvD n) : List CallD → Option (VD n) → ResD n
  | [], last => (last, 0)
  | c :: r, last => match stepR e c last with
    | (some v, 0) => pipeFrom e r (some v)
    | (_, f) => (none, f)
def pipeR (e : EnvD n) (l : List CallD) : ResD n := if l = [] then (none, 9) else pipeFrom e l none
theorem arg_const (e f : EnvD n) (a : ArgD) (h : asksA a = false) : argR e a = argR f a := by
  unfold asksA at h
  simp only [Bool.or_eq_false_iff, beq_eq_false_iff_ne] at h
  unfold argR
  rw [if_neg h.1, if_neg h.2, if_neg h.1, if_neg h.2]
theorem args_const (e f : EnvD n) : ∀ l : List ArgD, (l.any asksA) = false → argsR e l = argsR f l := by
  intro l
  induction l with
  | nil => intro _; rfl
  | cons a l ih =>
    intro h
    simp only [List.any_cons, Bool.or_eq_false_iff] at h
    simp only [argsR, arg_const e f a h.1, ih h.2]
theorem from_const (e f : EnvD n) : ∀ (l : List CallD) (last : Option (VD n)), (l.any fun c => c.args.any asksA) = false → pipeFrom e l last = pipeFrom f l last := by
  intro l
  induction l with
  | nil => intro last _; rfl
  | cons c l ih =>
    intro last h
    simp only [List.any_cons, Bool.or_eq_false_iff] at h
    have hs : stepR e c last = stepR f c last := by unfold stepR; rw [args_const e f c.args h.1]
    simp only [pipeFrom, hs]
    split
    · exact ih _ h.2
    · rfl
/-- A constant pipeline tells one thing, whatever stands around it. -/
theorem pipe_const (e f : EnvD n) (l : List CallD) (h : constP l = true) : pipeR e l = pipeR f l := by
  unfold constP at h
  rw [Bool.not_eq_true'] at h
  unfold pipeR
  split
  · rfl
  · exact from_const e f l none h
end
end Go.Proofs.YtnepogddjinpoaaGreatDoor

namespace Go.Proofs.YtnepogddjinpoaaGreatDoor
open Go.RowKit
set_option linter.unusedVariables false
set_option linter.unusedSimpArgs false

section
variable {n : Nat}
def GoodD (d : VD n) : Prop := massV (n + 1) d ≤ 1048576 ∧ NumV (n + 1) d
def FineR (r : ResD n) : Prop := (∃ d, r = (some d, 0) ∧ GoodD d) ∨ (∃ f, r = (none, f) ∧ f ≠ 0)
theorem fine_err {f : Int} (h : f ≠ 0) : FineR (n := n) (none, f) := .inr ⟨f, rfl, h⟩
theorem fine_val {d : VD n} (h : GoodD d) : FineR (some d, 0) := .inl ⟨d, rfl, h⟩
theorem good_flat (k i : Int) (s : List UInt8) (hs : s.length ≤ 1048575) (h1 : -9223372036854775808 ≤ i) (h2 : i ≤ 9223372036854775807) : GoodD (⟨k, i, s, [], []⟩ : VD n) := by
  refine ⟨?_, ⟨h1, h2⟩, fun x hx => by cases hx⟩
  rw [massV_succ]
  simp only [sumBy]
  omega
theorem good_text {s : List UInt8} (hs : s.length ≤ 1048575) : GoodD (textD (n := n) s) := good_flat _ _ _ hs (by decide) (by decide)
theorem good_int {i : Int} (h1 : -9223372036854775808 ≤ i) (h2 : i ≤ 9223372036854775807) : GoodD (intD (n := n) i) := good_flat _ _ _ (by decide) h1 h2
theorem good_truth (b : Bool) : GoodD (truthD (n := n) b) := good_flat _ _ _ (by decide) (by decide) (by decide)
theorem good_null : GoodD (nullD (n := n)) := good_flat _ _ _ (by decide) (by decide) (by decide)
theorem good_len {d : VD n} (h : GoodD d) : d.s.length ≤ 1048575 ∧ d.l.length ≤ 1048575 := by
  have h1 := h.1
  rw [massV_succ] at h1
  have h2 := sumBy_len (massV n) (massV_pos n) d.l
  omega
theorem good_part {d : VD n} (h : GoodD d) {x : VT n} (hx : x ∈ d.l) : GoodD (liftV n x) := by
  refine ⟨?_, lift_num n x (h.2.2 x hx)⟩
  rw [lift_mass]
  have h1 := h.1
  rw [massV_succ] at h1
  have h2 := sumBy_mem (massV n) d.l x hx
  omega
theorem made_fine (s : List UInt8) : FineR (madeD (n := n) s) := by
  unfold madeD
  split
  · exact fine_err (by decide)
  · exact fine_val (good_text (by omega))
theorem field_fine {d : VD n} (h : GoodD d) (name : List UInt8) : FineR (upD (fieldR d name)) := by
  unfold fieldR
  split
  · split
    · rename_i x hx
      obtain ⟨j, _, hj⟩ := Option.bind_eq_some_iff.1 hx
      exact fine_val (good_part h (List.mem_of_getElem? hj))
    · exact fine_err (f := 14) (by decide)
  · exact fine_err (f := 13) (by decide)
theorem index_fine {d : VD n} (h : GoodD d) (i : Int) : FineR (upD (indexR d i)) := by
  unfold indexR
  split
  · split
    · exact fine_err (f := 15) (by decide)
    · split
      · rename_i x hx
        exact fine_val (good_part h (List.mem_of_getElem? hx))
      · exact fine_err (f := 15) (by decide)
  · exact fine_err (f := 13) (by decide)
theorem len_range (k : Int) (s : List UInt8) (m : Nat) (hs : s.length ≤ 1048575) (hm : m ≤ 1048575) : -9223372036854775808 ≤ (lenC k ⟨s.toArray⟩ m).1 ∧ (lenC k ⟨s.toArray⟩ m).1 ≤ 9223372036854775807 := by
  have hz : (⟨s.toArray⟩ : ByteArray).size = s.length := mkSize s
  unfold lenC
  split
  · constructor <;> (show _ ≤ _) <;> simp only [] <;> omega
  · split
    · rw [hz]
      constructor <;> (show _ ≤ _) <;> simp only [] <;> omega
    · constructor <;> decide
theorem two_fine (name : List UInt8) {a b : VD n} (ha : GoodD a) (hb : GoodD b) : FineR (twoR name a b) := by
  unfold twoR
  split
  · exact fine_val (good_truth _)
  · split
    · split
      · exact fine_val (good_truth _)
      · split
        · exact fine_val (good_truth _)
        · exact fine_err (by decide)
    · split
      · exact fine_val (by split <;> assumption)
      · split
        · exact fine_val (by split <;> assumption)
        · split
          · exact fine_val (by split <;> assumption)
          · split
            · split
              · exact index_fine ha _
              · split
                · exact field_fine ha _
                · exact fine_err (by decide)
            · split
              · exact made_fine _
              · exact fine_err (by decide)
theorem call_fine (name : List UInt8) (l : List (VD n)) (h : ∀ x ∈ l, GoodD x) : FineR (callR name l) := by
  unfold callR
  simp only []
  split
  · exact fine_err (by decide)
  · split
    · exact fine_err (by decide)
    · cases l with
      | nil => exact fine_err (by decide)
      | cons a t =>
        have ha := h a (by simp)
        have hl := good_len ha
        simp only []
        split
        · split
          · exact fine_val (good_int (len_range _ _ _ hl.1 hl.2).1 (len_range _ _ _ hl.1 hl.2).2)
          · rename_i h2
            exact fine_err h2
        · split
          · exact fine_val (good_truth _)
          · split
            · exact made_fine _
            · split
              · split
                · exact fine_val (good_text (by rw [List.length_map]; omega))
                · exact fine_err (by decide)
              · split
                · split
                  · exact fine_val (good_text (by rw [List.length_map]; omega))
                  · exact fine_err (by decide)
                · cases t with
                  | nil => exact fine_err (by decide)
                  | cons b r => exact two_fine _ ha (h b (by simp))
theorem path_fine : ∀ (p : List (List UInt8)) {v : VD n}, GoodD v → FineR (pathR p v) := by
  intro p
  induction p with
  | nil => intro v h; exact fine_val h
  | cons x p ih =>
    intro v h
    unfold pathR
    rcases field_fine h x with ⟨d, e, g⟩ | ⟨f, e, g⟩
    · rw [e]; exact ih g
    · rw [e]; exact fine_err g
def GoodA (a : ArgD) : Prop := (-9223372036854775808 ≤ a.i ∧ a.i ≤ 9223372036854775807) ∧ a.s.length ≤ 1048575
structure GoodE (e : EnvD n) : Prop where
  root : GoodD e.root
  dot : GoodD e.dot
  vars : ∀ x ∈ e.vars, GoodD x.2
theorem last_good (name : List UInt8) : ∀ (l : List (List UInt8 × VD n)) (r : Option (VD n)), (∀ x ∈ l, GoodD x.2) → (∀ d, r = some d → GoodD d) → ∀ d, lastOf name l r = some d → GoodD d := by
  intro l
  induction l with
  | nil => intro r _ hr d h; exact hr d h
  | cons x l ih =>
    intro r hl hr d h
    unfold lastOf at h
    refine ih _ (fun y hy => hl y (by simp [hy])) ?_ d h
    intro d' h'
    split at h'
    · injection h' with h'; rw [← h']; exact hl x (by simp)
    · exact hr d' h'
theorem arg_fine {e : EnvD n} (he : GoodE e) {a : ArgD} (ha : GoodA a) : FineR (argR e a) := by
  unfold argR
  split
  · exact path_fine _ he.dot
  · split
    · split
      · rename_i v hv
        refine path_fine _ ?_
        split at hv
        · injection hv with hv; rw [← hv]; exact he.root
        · exact last_good _ _ _ he.vars (by intro d h; cases h) _ hv
      · exact fine_err (by decide)
    · split
      · exact fine_val (good_int ha.1.1 ha.1.2)
      · split
        · exact fine_val (good_text ha.2)
        · split
          · exact fine_val (good_truth _)
          · split
            · exact fine_val (good_truth _)
            · split
              · exact fine_val good_null
              · exact fine_err (by decide)
def FineL (r : Option (List (VD n)) × Int) (m : Nat) : Prop := (∃ l, r = (some l, 0) ∧ (∀ x ∈ l, GoodD x) ∧ l.length = m) ∨ (∃ f, r = (none, f) ∧ f ≠ 0)
theorem args_fine {e : EnvD n} (he : GoodE e) : ∀ (l : List ArgD), (∀ a ∈ l, GoodA a) → FineL (argsR e l) l.length := by
  intro l
  induction l with
  | nil => intro _; exact .inl ⟨[], rfl, fun x hx => (by cases hx), rfl⟩
  | cons a l ih =>
    intro h
    unfold argsR
    rcases arg_fine he (h a (by simp)) with ⟨d, e1, g⟩ | ⟨f, e1, g⟩
    · rw [e1]
      rcases ih (fun x hx => h x (by simp [hx])) with ⟨r, e2, g2, g3⟩ | ⟨f, e2, g2⟩
      · simp only [e2]
        exact .inl ⟨d :: r, rfl, fun x hx => by rcases List.mem_cons.1 hx with h1 | h1; exact h1 ▸ g; exact g2 x h1, by simp [g3]⟩
      · simp only [e2]
        exact .inr ⟨f, rfl, g2⟩
    · rw [e1]
      exact .inr ⟨f, rfl, g⟩
theorem step_fine {e : EnvD n} (he : GoodE e) {c : CallD} (hc : ∀ a ∈ c.args, GoodA a) {last : Option (VD n)} (hl : ∀ d, last = some d → GoodD d) : FineR (stepR e c last) := by
  unfold stepR
  rcases args_fine he c.args hc with ⟨l, e1, g, _⟩ | ⟨f, e1, g⟩
  · rw [e1]
    have hg : ∀ x ∈ l ++ last.toList, GoodD x := by
      intro x hx
      rcases List.mem_append.1 hx with h1 | h1
      · exact g x h1
      · exact hl x (by simpa using h1)
    simp only []
    split
    · exact call_fine _ _ hg
    · split
      · rename_i v hv
        exact fine_val (hg v (by rw [hv]; simp))
      · exact fine_err (by decide)
  · rw [e1]
    exact fine_err g
theorem from_fine {e : EnvD n} (he : GoodE e) : ∀ (l : List CallD), (∀ c ∈ l, ∀ a ∈ c.args, GoodA a) → ∀ {last : Option (VD n)}, (∀ d, last = some d → GoodD d) → (l = [] → last.isSome = true) → FineR (pipeFrom e l last) := by
  intro l
  induction l with
  | nil =>
    intro _ last hl hs
    obtain ⟨d, rfl⟩ := Option.isSome_iff_exists.1 (hs rfl)
    exact fine_val (hl d rfl)
  | cons c l ih =>
    intro h last hl _
    unfold pipeFrom
    rcases step_fine he (h c (by simp)) hl with ⟨d, e1, g⟩ | ⟨f, e1, g⟩
    · rw [e1]
      exact ih (fun x hx => h x (by simp [hx])) (by intro d' h'; injection h' with h'; rw [← h']; exact g) (fun _ => rfl)
    · rw [e1]
      exact fine_err g
theorem pipe_fine {e : EnvD n} (he : GoodE e) {l : List CallD} (h : ∀ c ∈ l, ∀ a ∈ c.args, GoodA a) : FineR (pipeR e l) := by
  unfold pipeR
  split
  · exact fine_err (by decide)
  · exact from_fine he l h (by intro d h; cases h) (fun h1 => absurd h1 (by assumption))
end
end Go.Proofs.YtnepogddjinpoaaGreatDoor
