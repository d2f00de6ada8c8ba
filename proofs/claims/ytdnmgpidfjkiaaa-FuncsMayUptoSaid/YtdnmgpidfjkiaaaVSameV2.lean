/-
  values.Same of any two values.
-/
import Derived.Test.YtdnmgpidfjkiaaaVSameV
namespace Go.Proofs.Ytdnmgpidfjkiaaa
open Go.RowKit
set_option linter.unusedVariables false
set_option linter.unusedSimpArgs false

set_option maxHeartbeats 4000000 in
set_option maxRecDepth 100000 in
theorem valSame_any : ∀ (n : Nat) (U1 U2 : World → Nat → Prop) (hU1 : ∀ w w' b, Below w.heap.size w w' → b < w.heap.size → U1 w b → U1 w' b) (hU2 : ∀ w w' b, Below w.heap.size w w' → b < w.heap.size → U2 w b → U2 w' b) (v1 v2 : Value) (d1 d2 : VT n) (w : World), IsV U1 w n v1 d1 → IsV U2 w n v2 d2 → SmallV n d1 →
    Calls Try.prog 59 #[v1, v2] w fun e w' => e = .returned (.bool (eqV n d1 d2)) ∧ Below w.heap.size w w' := by
  intro n
  induction n with
  | zero => intro U1 U2 _ _ v1 v2 d1 d2 w h; exact h.elim
  | succ n ih =>
    intro U1 U2 hU1 hU2 v1 v2 d1 d2 w h1 h2 hsm
    obtain ⟨k1, i1, s1, l1, t1⟩ := d1
    obtain ⟨k2, i2, s2, l2, t2⟩ := d2
    obtain ⟨a1, c1, b1, e1, rfl, hS1, hL1⟩ := h1.parts
    obtain ⟨a2, c2, b2, e2, rfl, hS2, hL2⟩ := h2.parts
    obtain ⟨_, hz2, hz3, _, hz5⟩ := hsm
    have hz2 : l1.length * 80 ≤ 140737488351232 := hz2
    have hz3 : t1.length * 16 ≤ 140737488351232 := hz3
    have hz5 : ∀ x ∈ l1, SmallV n x := hz5
    simp only at hS1 hL1 hS2 hL2 ⊢
    rw [eqV_mk]
    clear h1 h2
    have hxx := toL_eq s1 s2
    obtain ⟨x1, hx1⟩ : ∃ x : ByteArray, (⟨s1.toArray⟩ : ByteArray) = x := ⟨_, rfl⟩
    obtain ⟨x2, hx2⟩ : ∃ x : ByteArray, (⟨s2.toArray⟩ : ByteArray) = x := ⟨_, rfl⟩
    rw [hx1, hx2] at hxx
    rw [hx1, hx2]
    clear hx1 hx2
    have hB0 : ∀ o1 o2, Below w.heap.size w ((w.alloc o1).alloc o2) := fun o1 o2 => ((Below.refl _ _).alloc (Nat.le_refl _) _).alloc (by simp) _
    have HB0 := hide hB0
    clear hB0
    by_cases gk : k1 = k2
    rotate_left
    · have q : (k1 == k2) = false := by simpa using gk
      have hr : (decide (k1 = k2)) = false := by simpa using gk
      rw [hr]
      simp only [Bool.false_and]
      clear hS1 hL1 hS2 hL2 hxx hr gk hz5
      go_enter Try.func59, Try.ntmps59
      go_wp2_with fail
      go_ret
      exact ⟨rfl, HB0.out _ _⟩
    subst gk
    by_cases gi : i1 = i2
    rotate_left
    · have q : (i1 == i2) = false := by simpa using gi
      have hr : (decide (i1 = i2)) = false := by simpa using gi
      rw [hr]
      simp only [Bool.false_and, Bool.and_false]
      clear hS1 hL1 hS2 hL2 hxx hr gi hz5
      go_enter Try.func59, Try.ntmps59
      go_wp2_with fail
      go_ret
      exact ⟨rfl, HB0.out _ _⟩
    subst gi
    rcases Bool.eq_false_or_eq_true (s1 == s2) with gs | gs
    rotate_left
    · rw [gs] at hxx ⊢
      simp only [Bool.false_and, Bool.and_false]
      clear hS1 hL1 hS2 hL2 hz5
      go_enter Try.func59, Try.ntmps59
      go_wp2_with fail
      go_ret
      exact ⟨rfl, HB0.out _ _⟩
    rw [gs] at hxx ⊢
    have hR : Hid ((decide (k1 = k1) && decide (i1 = i1) && true && (l1.length == l2.length) && (t1 == t2) && (l1.zip l2).all fun p => eqV n p.1 p.2) = ((t1 == t2) && ((l1.length == l2.length) && (l1.zip l2).all fun p => eqV n p.1 p.2))) := by
      show _ = _
      simp
      cases (t1 == t2) <;> simp
    rw [hR.out]
    clear hR
    have hBW := HB0.out (.cells #[.int .i64 k1, .int .i64 i1, .string x1, .slice a1 l1.length c1, .slice b1 t1.length e1] 25) (.cells #[.int .i64 k1, .int .i64 i1, .string x2, .slice a2 l2.length c2, .slice b2 t2.length e2] 25)
    have K1 := (Blk.new w 25 #[.int .i64 k1, .int .i64 i1, .string x1, .slice a1 l1.length c1, .slice b1 t1.length e1]).alloc (.cells #[.int .i64 k1, .int .i64 i1, .string x2, .slice a2 l2.length c2, .slice b2 t2.length e2] 25)
    have K2 := Blk.new (w.alloc (.cells #[.int .i64 k1, .int .i64 i1, .string x1, .slice a1 l1.length c1, .slice b1 t1.length e1] 25)) 25 #[.int .i64 k1, .int .i64 i1, .string x2, .slice a2 l2.length c2, .slice b2 t2.length e2]
    simp only [World.size_alloc] at K2
    have cK : Hid (∀ W', Below w.heap.size w W' → Calls Try.prog 73 #[.slice b1 t1.length e1, .slice b2 t2.length e2] W' fun e w' => e = .returned (.bool (t1 == t2)) ∧ Below W'.heap.size W' w') := by
      intro W' hb
      by_cases hl : t1.length = t2.length
      · exact eqKeys_any U1 U2 b1 b2 e1 e2 t1 t2 W' (hS1.on (Stays.of_below hb fun b h => hU1 _ _ b hb h)) (hS2.on (Stays.of_below hb fun b h => hU2 _ _ b hb h)) hz3 hl
      · have : (t1 == t2) = false := by rw [beq_eq_false_iff_ne]; rintro rfl; exact hl rfl
        rw [this]
        exact (Try.slices_Equal_string_lens b1 b2 _ _ _ _ W' hl).mono fun e w' h => ⟨h.1, by rw [h.2]; exact Below.refl _ _⟩
    have cL : Hid (∀ W', Below w.heap.size w W' → Calls Try.prog 74 #[.slice a1 l1.length c1, .slice a2 l2.length c2, .func (.func 59) #[] #[]] W' fun e w' => e = .returned (.bool ((l1.length == l2.length) && (l1.zip l2).all fun p => eqV n p.1 p.2)) ∧ Below W'.heap.size W' w') := by
      intro W' hb
      by_cases hl : l1.length = l2.length
      · have he : (l1.length == l2.length) = true := by simpa using hl
        rw [he, Bool.true_and]
        have st1 : Stays U1 U1 w W' := Stays.of_below hb fun b h => hU1 _ _ b hb h
        have st2 : Stays U2 U2 w W' := Stays.of_below hb fun b h => hU2 _ _ b hb h
        exact eqFunc_any U1 U2 hU1 hU2 a1 a2 c1 c2 l1 l2 W' (hL1.on st1 (IsV.on st1 n)) (hL2.on st2 (IsV.on st2 n)) hz2 hl (fun v1 v2 x y W hx hv hw => ih U1 U2 hU1 hU2 v1 v2 x y W hv hw (hz5 x hx))
      · have he : (l1.length == l2.length) = false := by simpa using hl
        rw [he, Bool.false_and]
        exact eqFunc_lens _ _ _ _ _ _ hl W'
    obtain ⟨r1, hr1⟩ : ∃ r, (t1 == t2) = r := ⟨_, rfl⟩
    obtain ⟨r2, hr2⟩ : ∃ r, ((l1.length == l2.length) && (l1.zip l2).all fun p => eqV n p.1 p.2) = r := ⟨_, rfl⟩
    rw [hr1] at cK ⊢
    rw [hr2] at cL ⊢
    clear hS1 hL1 hS2 hL2 hz5 hr1 hr2 gs
    go_enter Try.func59, Try.ntmps59
    go_wp2_with fail
    generalize ((w.alloc (.cells #[.int .i64 k1, .int .i64 i1, .string x1, .slice a1 l1.length c1, .slice b1 t1.length e1] 25)).alloc (.cells #[.int .i64 k1, .int .i64 i1, .string x2, .slice a2 l2.length c2, .slice b2 t2.length e2] 25)) = W at K1 K2 hBW ⊢
    refine (cK.out _ hBW).mono ?_
    rintro e w3 ⟨rfl, hb3⟩
    have K1 := K1.below hb3 K1.lt
    have K2 := K2.below hb3 K2.lt
    have hBW := hBW.trans (hb3.mono hBW.size)
    have p3 := K1.cell 3; have q3 := K2.cell 3
    simp at p3 q3
    have z1 := K1.lt; have z2 := K2.lt
    cases r1
    · go_wp2_with fail
      go_ret
      exact ⟨rfl, hBW⟩
    · go_wp2_with fail
      refine (cL.out _ hBW).mono ?_
      rintro e w4 ⟨rfl, hb4⟩
      go_wp2_with fail
      go_ret
      exact ⟨by simp, hBW.trans (hb4.mono hBW.size)⟩
end Go.Proofs.Ytdnmgpidfjkiaaa
