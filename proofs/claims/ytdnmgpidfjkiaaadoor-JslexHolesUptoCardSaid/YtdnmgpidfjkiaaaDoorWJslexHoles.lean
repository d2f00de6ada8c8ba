/-
  JslexHoles: THE WALK.
-/
import Derived.Test.YtdnmgpidfjkiaaaDoorLexH
import Derived.Test.YtdnmgpidfjkiaaaDoorLexW
import Derived.Test.YtdnmgpidfjkiaaaDoorInside
import Derived.Test.YtdnmgpidfjkiaaaDoorScriptC
import Derived.Test.YtdnmgpidfjkiaaaDoorHoleW
namespace Go.Proofs.YtdnmgpidfjkiaaaDoor
open Go.RowKit
set_option linter.unusedVariables false
set_option linter.unusedSimpArgs false

theorem cat_quote (a x b : List UInt8) : (⟨(a ++ ((32 :: (quoteL x ++ [32])) ++ b)).toArray⟩ : ByteArray) = (⟨a.toArray⟩ : ByteArray) ++ ((⟨#[32, 34]⟩ : ByteArray) ++ ⟨(escR x).toArray⟩ ++ ⟨#[34, 32]⟩) ++ ⟨b.toArray⟩ := by
  apply ByteArray.ext; simp [quoteL]
theorem cat_plain (a x b : List UInt8) : (⟨(a ++ (escR x ++ b)).toArray⟩ : ByteArray) = (⟨a.toArray⟩ : ByteArray) ++ ⟨(escR x).toArray⟩ ++ ⟨b.toArray⟩ := by
  apply ByteArray.ext; simp
set_option maxHeartbeats 4000000 in
set_option maxRecDepth 100000 in
theorem jslexHoles_walk (a0 : ByteArray) (s0 : a0.size ≤ 1048576) (a1 : ByteArray) (s1 : a1.size ≤ 1048576) (a2 : ByteArray) (s2 : a2.size ≤ 1048576) (a3 : ByteArray) (s3 : a3.size ≤ 1048576) (w : World) (hS : Lib.TabIs Tryd.prog w "strings.asciiSpace" .u8 Lib.asciiSpaceTab) (hM : LenW w) :
    Calls Tryd.prog 7 #[.string a0, .string a1, .string a2, .string a3] w fun e w' => e = .returned (.bool true) ∧ Below w.heap.size w w' := by
  obtain ⟨a, rfl⟩ := ba_list a0
  obtain ⟨b, rfl⟩ := ba_list a1
  obtain ⟨s, rfl⟩ := ba_list a2
  obtain ⟨t, rfl⟩ := ba_list a3
  rw [mk_size] at s0 s1 s2 s3
  have hL : LexW w := ⟨hS, hM.len, hM.lt⟩
  have hL := hide hL
  clear hS hM
  have les := escR_len s
  have let_ := escR_len t
  have cF := hide (fun w => feed14_any (0, []) a w (by decide) (by decide) (by omega))
  obtain ⟨⟨p, wd⟩, hpw⟩ : ∃ q, feedB (0, []) a = q := ⟨_, rfl⟩
  rw [hpw] at cF
  simp only at cF
  have cIs := hide (fun w => inside_any s w (by omega))
  have cIt := hide (fun w => inside_any t w (by omega))
  have cX := fun l W (h : Below w.heap.size w W) => pieces_any l W (hL.out.below h)
  have hle := (feedB_le (0, []) a (by decide) (by decide)).1
  rw [hpw] at hle
  have hle : p ≤ 15 := hle
  have hma : (⟨a.toArray⟩ : ByteArray).size = a.length := mk_size a
  have hmb : (⟨b.toArray⟩ : ByteArray).size = b.length := mk_size b
  have hms : (⟨(escR s).toArray⟩ : ByteArray).size = (escR s).length := mk_size _
  have hmt : (⟨(escR t).toArray⟩ : ByteArray).size = (escR t).length := mk_size _
  have main : ∀ x y : List UInt8, HoleX p x y → ∀ P Q n m e f, Told (a ++ (x ++ b)) P n e → Told (a ++ (y ++ b)) Q m f → (e = 5 ∨ f = 5) ∨ (e = f ∧ (e = 0 → OneOff (P.map kt) (Q.map kt))) :=
    fun x y hX P Q n m e f h1 h2 => told_hole hpw hX h1 h2
  have main := hide main
  have hq1 : HoleX 1 (32 :: (quoteL s ++ [32])) (32 :: (quoteL t ++ [32])) := .inl ⟨by omega, s, t, rfl, rfl⟩
  have hX : p ≤ 1 → HoleX p (32 :: (quoteL s ++ [32])) (32 :: (quoteL t ++ [32])) := fun h => .inl ⟨h, s, t, rfl, rfl⟩
  have hX2 : p = 2 ∨ p = 3 → HoleX p (escR s) (escR t) := fun h => .inr ⟨h, s, t, rfl, rfl⟩
  have hX := hide hX; have hX2 := hide hX2
  clear hq1 hpw
  have hcs : p ≤ 1 ∨ (p = 2 ∨ p = 3) ∨ 4 ≤ p := by omega
  rcases hcs with hp | hp | hp
  · -- where a value may come
    have cx1 := cX (a ++ ((32 :: (quoteL s ++ [32])) ++ b))
    have cx2 := cX (a ++ ((32 :: (quoteL t ++ [32])) ++ b))
    rw [cat_quote] at cx1 cx2
    have hT := hide (main.out _ _ (hX.out hp))
    have cx1 := hide cx1; have cx2 := hide cx2
    have cH := hide (fun w => hole_code p ⟨wd.toArray⟩ w (by omega))
    obtain ⟨X, hX1⟩ : ∃ X : ByteArray, (⟨(escR s).toArray⟩ : ByteArray) = X := ⟨_, rfl⟩
    obtain ⟨Y, hY1⟩ : ∃ Y : ByteArray, (⟨(escR t).toArray⟩ : ByteArray) = Y := ⟨_, rfl⟩
    rw [hX1] at cIs cx1 hms
    rw [hY1] at cIt cx2 hmt
    generalize (escR s).length = ns at *
    generalize (escR t).length = nt at *
    clear hX1 hY1 hX hX2 main cX
    go_enter Tryd.func7, Tryd.ntmps7
    go_wp2_with fail
    refine (alive38 w hL.out).mono ?_
    rintro e w1 ⟨rfl, hb1⟩
    go_wp2_with fail
    refine (cF.out w1).mono ?_
    rintro e w2 ⟨rfl, hb2⟩
    have HB2 := hide (below_step hb1 hb2)
    clear hb1 hb2
    go_wp2_with fail
    refine (cH.out w2).mono ?_
    rintro e w3 ⟨rfl, rfl⟩
    go_wp2_with fail
    refine (cIs.out _).mono ?_
    rintro e w4 ⟨rfl, hb4⟩
    have HB4 := hide (below_step HB2.out hb4)
    clear hb4
    go_wp2_with fail
    refine (cIt.out _).mono ?_
    rintro e w5 ⟨rfl, hb5⟩
    have HB5 := hide (below_step HB4.out hb5)
    clear hb5
    go_wp2_with fail
    refine (cx1.out _ HB5.out).mono ?_
    rintro e w6 ⟨v1, P, n1, e1, rfl, hT1, hO1, hb6⟩
    have HB6 := hide (below_step HB5.out hb6)
    obtain ⟨A1, c1, rfl⟩ := own_sliceL hO1
    have HT1 := hide hT1; have HO1 := hide hO1
    clear hb6 hT1 hO1
    go_wp2_with fail
    refine (cx2.out _ HB6.out).mono ?_
    rintro e w7 ⟨v2, Q, n2, e2, rfl, hT2, hO2, hb7⟩
    have HB7 := hide (below_step HB6.out hb7)
    obtain ⟨A2, c2, rfl⟩ := own_sliceL hO2
    have hd := hT.out _ _ _ _ _ _ HT1.out hT2
    have HO1 := hide (own_keepL HO1.out hb7)
    have hz := hide (told_len HT1.out)
    have HO2 := hide hO2
    have hr1 := told_err HT1.out
    have hr2 := told_err hT2
    clear hb7 hT2 hO2 HT1 hT
    rcases hd with hd | ⟨rfl, hone⟩
    · have hcase : (e1 = 5 ∧ e2 = 0) ∨ (e1 = 5 ∧ e2 = 3) ∨ (e1 = 5 ∧ e2 = 5) ∨ (e1 = 5 ∧ e2 = 33) ∨ (e1 = 0 ∧ e2 = 5) ∨ (e1 = 3 ∧ e2 = 5) ∨ (e1 = 33 ∧ e2 = 5) := by omega
      clear hd hr1 hr2
      rcases hcase with ⟨rfl, rfl⟩ | ⟨rfl, rfl⟩ | ⟨rfl, rfl⟩ | ⟨rfl, rfl⟩ | ⟨rfl, rfl⟩ | ⟨rfl, rfl⟩ | ⟨rfl, rfl⟩
      all_goals
        go_wp2_with fail
        go_ret
        exact ⟨rfl, HB7.out⟩
    · clear hr2
      rcases hr1 with rfl | rfl | rfl | rfl
      · have cA := hide (apart_any P Q _ _ _ _ w7 HO1.out HO2.out hz.out (hone rfl))
        clear hone
        go_wp2_with fail
        refine (cA.out).mono ?_
        rintro e w8 ⟨r, rfl, hr, hb8⟩
        have hr01 : r = 0 ∨ r = 1 := by omega
        rcases hr01 with rfl | rfl
        · go_wp2_with fail
          go_ret
          exact ⟨rfl, below_step HB7.out hb8⟩
        · go_wp2_with fail
          go_ret
          exact ⟨rfl, below_step HB7.out hb8⟩
      all_goals
        clear hone
        go_wp2_with fail
        go_ret
        exact ⟨rfl, HB7.out⟩
  · -- within a text
    have cx1 := cX (a ++ (escR s ++ b))
    have cx2 := cX (a ++ (escR t ++ b))
    rw [cat_plain] at cx1 cx2
    have hT := hide (main.out _ _ (hX2.out hp))
    have cx1 := hide cx1; have cx2 := hide cx2
    have cH := hide (fun w => hole_text p ⟨wd.toArray⟩ w hp)
    obtain ⟨X, hX1⟩ : ∃ X : ByteArray, (⟨(escR s).toArray⟩ : ByteArray) = X := ⟨_, rfl⟩
    obtain ⟨Y, hY1⟩ : ∃ Y : ByteArray, (⟨(escR t).toArray⟩ : ByteArray) = Y := ⟨_, rfl⟩
    rw [hX1] at cIs cx1 hms
    rw [hY1] at cIt cx2 hmt
    generalize (escR s).length = ns at *
    generalize (escR t).length = nt at *
    have hp1 : decide ((p : Int) < 1) = false := by simp; omega
    clear hX1 hY1 hX hX2 main cX
    go_enter Tryd.func7, Tryd.ntmps7
    go_wp2_with fail
    refine (alive38 w hL.out).mono ?_
    rintro e w1 ⟨rfl, hb1⟩
    go_wp2_with fail
    refine (cF.out w1).mono ?_
    rintro e w2 ⟨rfl, hb2⟩
    have HB2 := hide (below_step hb1 hb2)
    clear hb1 hb2
    go_wp2_with fail
    refine (cH.out w2).mono ?_
    rintro e w3 ⟨rfl, rfl⟩
    go_wp2_with fail
    refine (cIs.out _).mono ?_
    rintro e w4 ⟨rfl, hb4⟩
    have HB4 := hide (below_step HB2.out hb4)
    clear hb4
    go_wp2_with fail
    refine (cIt.out _).mono ?_
    rintro e w5 ⟨rfl, hb5⟩
    have HB5 := hide (below_step HB4.out hb5)
    clear hb5
    go_wp2_with fail
    refine (cx1.out _ HB5.out).mono ?_
    rintro e w6 ⟨v1, P, n1, e1, rfl, hT1, hO1, hb6⟩
    have HB6 := hide (below_step HB5.out hb6)
    obtain ⟨A1, c1, rfl⟩ := own_sliceL hO1
    have HT1 := hide hT1; have HO1 := hide hO1
    clear hb6 hT1 hO1
    go_wp2_with fail
    refine (cx2.out _ HB6.out).mono ?_
    rintro e w7 ⟨v2, Q, n2, e2, rfl, hT2, hO2, hb7⟩
    have HB7 := hide (below_step HB6.out hb7)
    obtain ⟨A2, c2, rfl⟩ := own_sliceL hO2
    have hd := hT.out _ _ _ _ _ _ HT1.out hT2
    have HO1 := hide (own_keepL HO1.out hb7)
    have hz := hide (told_len HT1.out)
    have HO2 := hide hO2
    have hr1 := told_err HT1.out
    have hr2 := told_err hT2
    clear hb7 hT2 hO2 HT1 hT
    rcases hd with hd | ⟨rfl, hone⟩
    · have hcase : (e1 = 5 ∧ e2 = 0) ∨ (e1 = 5 ∧ e2 = 3) ∨ (e1 = 5 ∧ e2 = 5) ∨ (e1 = 5 ∧ e2 = 33) ∨ (e1 = 0 ∧ e2 = 5) ∨ (e1 = 3 ∧ e2 = 5) ∨ (e1 = 33 ∧ e2 = 5) := by omega
      clear hd hr1 hr2
      rcases hcase with ⟨rfl, rfl⟩ | ⟨rfl, rfl⟩ | ⟨rfl, rfl⟩ | ⟨rfl, rfl⟩ | ⟨rfl, rfl⟩ | ⟨rfl, rfl⟩ | ⟨rfl, rfl⟩
      all_goals
        go_wp2_with fail
        go_ret
        exact ⟨rfl, HB7.out⟩
    · clear hr2
      rcases hr1 with rfl | rfl | rfl | rfl
      · have cA := hide (apart_any P Q _ _ _ _ w7 HO1.out HO2.out hz.out (hone rfl))
        clear hone
        go_wp2_with fail
        refine (cA.out).mono ?_
        rintro e w8 ⟨r, rfl, hr, hb8⟩
        have hr01 : r = 0 ∨ r = 1 := by omega
        rcases hr01 with rfl | rfl
        · go_wp2_with fail
          go_ret
          exact ⟨rfl, below_step HB7.out hb8⟩
        · go_wp2_with fail
          go_ret
          exact ⟨rfl, below_step HB7.out hb8⟩
      all_goals
        clear hone
        go_wp2_with fail
        go_ret
        exact ⟨rfl, HB7.out⟩
  · -- no hole
    have cH := hide (fun w => hole_none p ⟨wd.toArray⟩ w hp)
    clear main cX hX hX2
    go_enter Tryd.func7, Tryd.ntmps7
    go_wp2_with fail
    refine (alive38 w hL.out).mono ?_
    rintro e w1 ⟨rfl, hb1⟩
    go_wp2_with fail
    refine (cF.out w1).mono ?_
    rintro e w2 ⟨rfl, hb2⟩
    have HB2 := hide (below_step hb1 hb2)
    clear hb1 hb2
    go_wp2_with fail
    refine (cH.out w2).mono ?_
    rintro e w3 ⟨rfl, rfl⟩
    go_wp2_with fail
    refine (cIs.out _).mono ?_
    rintro e w4 ⟨rfl, hb4⟩
    have HB4 := hide (below_step HB2.out hb4)
    clear hb4
    go_wp2_with fail
    refine (cIt.out _).mono ?_
    rintro e w5 ⟨rfl, hb5⟩
    go_wp2_with fail
    go_ret
    exact ⟨rfl, below_step HB4.out hb5⟩
end Go.Proofs.YtdnmgpidfjkiaaaDoor
