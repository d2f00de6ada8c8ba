/-
  values.Same of any two values; slices.EqualFunc at it.
-/
import Derived.Test.YtdnmgpidfjkiaaaVSame
import Derived.Test.YtdnmgpidfjkiaaaVOwn
import Derived.Test.YtdnmgpidfjkiaaaShelf
import Derived.Shelf.Abstract
namespace Go.Proofs.Ytdnmgpidfjkiaaa
open Go.RowKit
set_option linter.unusedVariables false
set_option linter.unusedSimpArgs false

set_option maxHeartbeats 2000000 in
set_option maxRecDepth 100000 in
theorem eqFunc_any {n : Nat} (U1 U2 : World → Nat → Prop) (hU1 : ∀ w w' b, Below w.heap.size w w' → b < w.heap.size → U1 w b → U1 w' b) (hU2 : ∀ w w' b, Below w.heap.size w w' → b < w.heap.size → U2 w b → U2 w' b)
    (a1 a2 : Option Addr) (c1 c2 : Nat) (l1 l2 : List (VT n)) (w : World) (hL1 : ValsAt U1 w (IsV U1 w n) a1 l1) (hL2 : ValsAt U2 w (IsV U2 w n) a2 l2) (hz : l1.length * 80 ≤ 140737488351232) (hl : l1.length = l2.length)
    (hS : ∀ (v1 v2 : Value) (x y : VT n) (W : World), x ∈ l1 → IsV U1 W n v1 x → IsV U2 W n v2 y → Calls Try.prog 59 #[v1, v2] W fun e w' => e = .returned (.bool (eqV n x y)) ∧ Below W.heap.size W w') :
    Calls Try.prog 74 #[.slice a1 l1.length c1, .slice a2 l2.length c2, .func (.func 59) #[] #[]] w fun e w' => e = .returned (.bool ((l1.zip l2).all fun p => eqV n p.1 p.2)) ∧ Below w.heap.size w w' := by
  obtain ⟨m, hm⟩ : ∃ m, l1.length = m := ⟨_, rfl⟩
  obtain ⟨R, hR⟩ : ∃ R, ((l1.zip l2).all fun p => eqV n p.1 p.2) = R := ⟨_, rfl⟩
  rw [hm] at hz hl ⊢
  rw [hR, ← hl]
  have HL1 := hide hL1; have HL2 := hide hL2; have HM := hide hm; have HR := hide hR; have HLL := hide hl; have HS := hide hS
  clear hL1 hL2 hm hR hl hS
  have eg := enters_of Try.func59 (by kernel_rfl) rfl
  go_enter Try.func74, Try.ntmps74
  go_wp2_with fail
  go_loopw [17] (fun i wr => ∃ j : Nat, i = .int .i64 (j : Int) ∧ j ≤ m ∧ Below w.heap.size w wr ∧ Hid (∀ r p, r < j → (l1.zip l2)[r]? = some p → eqV n p.1 p.2 = true)) (fun i _ => m - (intOf i).toNat)
  case atStart => exact ⟨0, rfl, Nat.zero_le _, (by first | exact Below.refl _ _ | exact below_drewN (Below.refl _ _) _), fun r p h => absurd h (Nat.not_lt_zero _)⟩
  case round =>
    obtain ⟨i, rfl, hi, hb, hal2⟩ := hrel
    by_cases hil : i < m
    · obtain ⟨x, hx⟩ : ∃ x, l1[i]? = some x := ⟨_, List.getElem?_eq_getElem (by have := HM.out; omega)⟩
      obtain ⟨y, hy⟩ : ∃ y, l2[i]? = some y := ⟨_, List.getElem?_eq_getElem (by have := HLL.out; omega)⟩
      have hzip : (l1.zip l2)[i]? = some (x, y) := by rw [List.getElem?_zip_eq_some]; exact ⟨hx, hy⟩
      have hstay1 : Stays U1 U1 w wr := Stays.of_below hb fun b h => hU1 _ _ b hb h
      have hstay2 : Stays U2 U2 w wr := Stays.of_below hb fun b h => hU2 _ _ b hb h
      obtain ⟨g1, o1, rfl, hg1, _, ka, ia, sa, aa, na, ca, ba, ma, da, hF1, hV1⟩ := (HL1.out.on hstay1 (IsV.on hstay1 n)) i x hx
      obtain ⟨g2, o2, rfl, hg2, _, kb, ib, sb, ab, nb, cb, bb, mb, db, hF2, hV2⟩ := (HL2.out.on hstay2 (IsV.on hstay2 n)) i y hy
      obtain ⟨f0, f1, f2, f3, f4⟩ := hF1
      obtain ⟨u0, u1, u2, u3, u4⟩ := hF2
      have hii : (i : Int) < (m : Int) := by omega
      have hbA := ((Below.refl wr.heap.size wr).alloc (Nat.le_refl _) (.cells #[.int .i64 ka, .int .i64 ia, .string sa, .slice aa na ca, .slice ba ma da] 25)).alloc (by simp) (.cells #[.int .i64 kb, .int .i64 ib, .string sb, .slice ab nb cb, .slice bb mb db] 25)
      have cS := hide (fun W' (h : Below wr.heap.size wr W') => HS.out _ _ x y W' (List.mem_of_getElem? hx) (IsV.on (Stays.of_below h fun b hh => hU1 _ _ b h hh) n _ _ hV1) (IsV.on (Stays.of_below h fun b hh => hU2 _ _ b h hh) n _ _ hV2))
      obtain ⟨eb, heb⟩ : ∃ b, eqV n x y = b := ⟨_, rfl⟩
      rw [heb] at cS
      have HZIP := hide hzip; have HEB := hide heb; have HBA := hide hbA
      clear hV1 hV2 hstay1 hstay2 hx hy hzip heb hbA
      cases eb
      · have hRf : R = false := by
          rw [← HR.out, List.all_eq_false]
          exact ⟨_, List.mem_of_getElem? HZIP.out, by simp [HEB.out]⟩
        subst hRf
        clear hal2
        go_wp2_with fail
        refine (cS.out _ HBA.out).mono ?_
        rintro e w1 ⟨rfl, hb1⟩
        go_wp2_with fail
        go_ret
        exact ⟨rfl, hb.trans ((below_step HBA.out hb1).mono hb.size)⟩
      · have hnx : Hid (∀ r p, r < i + 1 → (l1.zip l2)[r]? = some p → eqV n p.1 p.2 = true) := by
          intro r p hr hp
          rcases Nat.lt_or_ge r i with h | h
          · exact hal2.out r p h hp
          · obtain rfl : r = i := by omega
            have := HZIP.out
            rw [hp] at this
            injection this with this
            rw [this]; exact HEB.out
        clear hal2
        go_wp2_with fail
        refine (cS.out _ HBA.out).mono ?_
        rintro e w1 ⟨rfl, hb1⟩
        go_wp2_with fail
        go_roundw
        case rel => exact ⟨i + 1, by go_num, by omega, hb.trans ((below_step HBA.out hb1).mono hb.size), hnx⟩
        case measure => simp [intOf]; omega
    · obtain rfl : i = m := by omega
      have hal : (l1.zip l2).all (fun p => eqV n p.1 p.2) = true := by
        rw [List.all_eq_true]
        intro p hp
        obtain ⟨r, hr, e⟩ := List.getElem_of_mem hp
        have hr2 : r < i := by have := HM.out; simp at hr; omega
        exact hal2.out r p hr2 (by rw [List.getElem?_eq_getElem hr, e])
      have hRt : R = true := by rw [← HR.out, hal]
      subst hRt
      have hif : decide ((i : Int) < (i : Int)) = false := by simp
      clear hal hal2
      go_wp2_with fail
      go_ret
      exact ⟨rfl, hb⟩
theorem eqFunc_lens (a1 a2 : Option Addr) (c1 c2 n1 n2 : Nat) (h : n1 ≠ n2) (w : World) :
    Calls Try.prog 74 #[.slice a1 n1 c1, .slice a2 n2 c2, .func (.func 59) #[] #[]] w fun e w' => e = .returned (.bool false) ∧ Below w.heap.size w w' := by
  have hne : ((n1 : Int) != (n2 : Int)) = true := by simp; omega
  go_enter Try.func74, Try.ntmps74
  go_wp2_with fail
  go_ret
  exact ⟨rfl, Below.refl _ _⟩
theorem mapDec_inj {a b : List (List UInt8)} : (a.map fun k => (⟨k.toArray⟩ : ByteArray)) = (b.map fun k => (⟨k.toArray⟩ : ByteArray)) ↔ a = b := by
  constructor
  · intro h
    have h2 := congrArg (List.map fun x : ByteArray => x.data.toList) h
    simpa [Function.comp_def] using h2
  · rintro rfl; rfl
theorem eqKeys_any (U1 U2 : World → Nat → Prop) (a1 a2 : Option Addr) (c1 c2 : Nat) (k1 k2 : List (List UInt8)) (w : World) (h1 : StrsAt U1 w a1 k1) (h2 : StrsAt U2 w a2 k2) (hz1 : k1.length * 16 ≤ 140737488351232) (hz2 : k1.length = k2.length) :
    Calls Try.prog 73 #[.slice a1 k1.length c1, .slice a2 k2.length c2] w fun e w' => e = .returned (.bool (k1 == k2)) ∧ Below w.heap.size w w' := by
  by_cases h0 : k1.length = 0
  · have e1 : k1 = [] := List.length_eq_zero_iff.1 h0
    have e2 : k2 = [] := List.length_eq_zero_iff.1 (by omega)
    subst e1; subst e2
    exact (Try.slices_Equal_string_empty a1 a2 c1 0 c2 w (by omega)).mono fun e w' h => ⟨h.1, by rw [h.2]; exact Below.refl _ _⟩
  · obtain ⟨b1, o1, rfl, _, _, _⟩ := h1 0 (k1[0]'(by omega)) (List.getElem?_eq_getElem (by omega))
    obtain ⟨b2, o2, rfl, _, _, _⟩ := h2 0 (k2[0]'(by omega)) (List.getElem?_eq_getElem (by omega))
    have q1 : ∀ j, j < (k1.map fun k => (⟨k.toArray⟩ : ByteArray)).length → w.cell? ⟨b1, o1 + j, none⟩ = some (.string ((k1.map fun k => (⟨k.toArray⟩ : ByteArray)).getD j ByteArray.empty)) := by
      intro j hj
      rw [List.length_map] at hj
      obtain ⟨b, o, e, _, _, hc⟩ := h1 j (k1[j]'hj) (List.getElem?_eq_getElem hj)
      injection e with e
      injection e with e1 e2 _
      subst e1; subst e2
      rw [hc]; simp [List.getD, hj]
    have q2 : ∀ j, j < (k2.map fun k => (⟨k.toArray⟩ : ByteArray)).length → w.cell? ⟨b2, o2 + j, none⟩ = some (.string ((k2.map fun k => (⟨k.toArray⟩ : ByteArray)).getD j ByteArray.empty)) := by
      intro j hj
      rw [List.length_map] at hj
      obtain ⟨b, o, e, _, _, hc⟩ := h2 j (k2[j]'hj) (List.getElem?_eq_getElem hj)
      injection e with e
      injection e with e1 e2 _
      subst e1; subst e2
      rw [hc]; simp [List.getD, hj]
    refine (Try.slices_Equal_string b1 o1 k1.length c1 b2 o2 k2.length c2 _ _ w (by simp) (by simp) (by omega) (by omega) q1 q2).mono fun e w' h => ⟨?_, ?_⟩
    · rw [h.1]
      have : decide ((k1.map fun k => (⟨k.toArray⟩ : ByteArray)).take k1.length = (k2.map fun k => (⟨k.toArray⟩ : ByteArray)).take k2.length) = (k1 == k2) := by
        rw [List.take_of_length_le (by simp), List.take_of_length_le (by simp)]
        by_cases he : k1 = k2
        · subst he; simp
        · rw [decide_eq_false (fun h => he (mapDec_inj.1 h))]
          simp [he]
      rw [this]
    · obtain ⟨q, hq⟩ := h.2
      rw [hq]; exact below_drewN (Below.refl _ _) _
end Go.Proofs.Ytdnmgpidfjkiaaa
