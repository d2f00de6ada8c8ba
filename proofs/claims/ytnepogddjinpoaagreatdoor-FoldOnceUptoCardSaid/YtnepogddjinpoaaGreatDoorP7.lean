/-
  PLAIN LAWS of many texts, in one.
-/
import Derived.Test.YtnepogddjinpoaaGreatDoorP3
import Derived.Test.YtnepogddjinpoaaGreatDoorFuncB
import Derived.Test.YtnepogddjinpoaaGreatDoorIdxA
import Derived.Test.YtnepogddjinpoaaGreatDoorC1
namespace Go.Proofs.YtnepogddjinpoaaGreatDoor
open Go.RowKit
set_option linter.unusedVariables false
set_option linter.unusedSimpArgs false

theorem name_anyL (l : List UInt8) (w : World) (hs : l.length ≤ 140737488351232) : Calls Tryz.prog 121 #[.string ⟨l.toArray⟩] w fun e w' => e = .returned (.bool (isName l)) ∧ Below w.heap.size w w' := name_any ⟨l.toArray⟩ w (by have := mkSize l; omega)
theorem badName_any (x : List UInt8) (w : World) (hs : x.length ≤ 140737488351232) : Calls Tryz.prog 120 #[.string ⟨x.toArray⟩] w fun e w' => e = .returned (.bool (!isName x)) ∧ Below w.heap.size w w' := by
  have cN := hide (fun W => name_anyL x W hs)
  obtain ⟨s, hx⟩ : ∃ s : ByteArray, (⟨x.toArray⟩ : ByteArray) = s := ⟨_, rfl⟩
  rw [hx]
  simp only [hx] at cN
  obtain ⟨q, hq⟩ : ∃ q, isName x = q := ⟨_, rfl⟩
  rw [hq]
  simp only [hq] at cN
  clear hx hq
  go_enter Tryz.func120, Tryz.ntmps120
  go_wp2_with fail
  refine (cN.out _).mono ?_
  rintro e w1 ⟨rfl, hb1⟩
  go_wp2_with fail
  go_ret
  exact ⟨rfl, hb1⟩
set_option maxHeartbeats 40000000 in
set_option maxRecDepth 100000 in
theorem argMay_cells (k : Int) (nm : List UInt8) (ap : Option Addr) (path : List (List UInt8)) (cp : Nat) (i : Int) (s : List UInt8) (U : World → Nat → Prop) (hU : Lasts U) (w : World) (hP : AtR StrR 1 U w ap path) (hpl : ∀ x ∈ path, x.length ≤ 140737488351232) (hpn : path.length ≤ 1048576) (hnm : nm.length ≤ 140737488351232) :
    Calls Tryz.prog 101 #[.agg #[.int .i64 k, .string ⟨nm.toArray⟩, .slice ap path.length cp, .int .i64 i, .string ⟨s.toArray⟩]] w fun e w' => e = .returned (.bool (argMayP ⟨k, nm, path, i, s⟩)) ∧ Below w.heap.size w w' := by
  obtain ⟨R, hR⟩ : ∃ R, argMayP ⟨k, nm, path, i, s⟩ = R := ⟨_, rfl⟩
  rw [hR]
  have HR := hide hR
  clear hR
  have cC := hide (fun W (hb : Below w.heap.size w W) => containsFuncS 120 #[] (fun _ _ => rfl) U hU (fun x => !isName x) path ap cp W (fun W' vs x hb' hx hR => by have hR : vs = [.string ⟨x.toArray⟩] := hR; subst hR; exact badName_any x W' (hpl x hx)) (hP.on StrR.steady (hU.stays hb)) hpn)
  have cN := hide (fun W => name_anyL nm W hnm)
  obtain ⟨N, hN⟩ : ∃ N : ByteArray, (⟨nm.toArray⟩ : ByteArray) = N := ⟨_, rfl⟩
  obtain ⟨S, hS⟩ : ∃ S : ByteArray, (⟨s.toArray⟩ : ByteArray) = S := ⟨_, rfl⟩
  obtain ⟨np, hnp⟩ : ∃ np, path.length = np := ⟨_, rfl⟩
  have HN : Hid (N.toList = nm) := hide (by rw [← hN, ByteArray.toList_eq])
  have HS : Hid (S.toList = s) := hide (by rw [← hS, ByteArray.toList_eq])
  have HSZ : Hid (S.size = s.length) := hide (by rw [← hS]; exact mkSize s)
  have HNP := hide hnp
  rw [hN, hS, hnp]
  simp only [hN] at cN
  simp only [hnp] at cC
  rw [hnp] at hpn
  clear hN hS hnp hP hpl hnm
  cases ha : path.any (fun x => !isName x) with
  | true =>
    simp only [ha] at cC
    have hal : path.all isName = false := by
      cases h : path.all isName with
      | false => rfl
      | true =>
        rw [List.all_eq_true] at h
        obtain ⟨x, hx, h2⟩ := List.any_eq_true.1 ha
        rw [h x hx] at h2
        cases h2
    go_enter Tryz.func101, Tryz.ntmps101
    go_wp2_with fail
    refine name_world fun W hW => ?_
    have C1 : Chg [] w W := by subst hW; (repeat' (first | with_reducible exact Chg.refl _ _ | with_reducible refine Chg.alloc ?_ _ | with_reducible refine Chg.drew ?_ | with_reducible refine Chg.drewN ?_ _ | with_reducible refine Chg.set_ ?_ _ _ (by first | (simp; done) | (simp; omega) | omega)))
    clear hW
    refine (cC.out W C1.bel).mono ?_
    rintro e w1 ⟨rfl, hb1⟩
    have C2 := hide (C1.below hb1)
    go_wp2_with fail
    go_ret
    exact ⟨by rw [← HR.out]; simp [argMayP, hal], C2.out.bel⟩
  | false =>
    simp only [ha] at cC
    have hal : path.all isName = true := by
      rw [List.all_eq_true]
      intro x hx
      have h := List.any_eq_false.1 ha x hx
      simpa using h
    clear ha
    go_enter Tryz.func101, Tryz.ntmps101
    go_wp2_with fail
    refine name_world fun W hW => ?_
    have C1 : Chg [] w W := by subst hW; (repeat' (first | with_reducible exact Chg.refl _ _ | with_reducible refine Chg.alloc ?_ _ | with_reducible refine Chg.drew ?_ | with_reducible refine Chg.drewN ?_ _ | with_reducible refine Chg.set_ ?_ _ _ (by first | (simp; done) | (simp; omega) | omega)))
    have K : Blk W w.heap.size 35 #[.int .i64 k, .string N, .slice ap np cp, .int .i64 i, .string S] := by subst hW; (repeat' (first | with_reducible exact Blk.new_ (by first | rfl | (simp; done) | (simp; omega)) | with_reducible refine Blk.alloc_ ?_ | with_reducible refine Blk.drew ?_ | with_reducible refine Blk.drewN ?_ _ | with_reducible refine Blk.far_ ?_ (by first | (simp; done) | (simp; omega) | omega) | with_reducible apply Blk.set_eq | rfl))
    clear hW
    refine (cC.out W C1.bel).mono ?_
    rintro e w1 ⟨rfl, hb1⟩
    have C2 := hide (C1.below hb1)
    have K1 := K.chg (Chg.of_below (S := []) hb1) (by simp)
    have k0 := K1.cell 0; have k1 := K1.cell 1; have k2 := K1.cell 2; have k3 := K1.cell 3; have k4 := K1.cell 4; simp at k0 k1 k2 k3 k4
    have lK := K1.lt
    clear K K1 hb1 C1
    simp only [List.append, List.cons_append, List.nil_append] at *
    by_cases hl16 : path.length ≤ 16
    · have w0 : decide ((16 : Int) < (np : Int)) = false := by rw [← HNP.out]; simp; omega
      by_cases c1 : 1 ≤ k
      · have w1 : decide ((1 : Int) ≤ k) = true := by simpa using c1
        by_cases c2 : k ≤ 7
        · have w2 : decide (k ≤ (7 : Int)) = true := by simpa using c2
          rcases (show k = 1 ∨ k = 2 ∨ k = 3 ∨ k = 4 ∨ k = 5 ∨ k = 6 ∨ k = 7 by omega) with rfl | rfl | rfl | rfl | rfl | rfl | rfl
          · clear c1 c2 w1 w2
            by_cases en : nm = []
            · have w4 : N.toList.isEmpty = true := by rw [HN.out, en]; rfl
              have w4' : (N.toList == []) = true := by rw [HN.out, en]; rfl
              by_cases ei : i = 0
              · subst ei
                by_cases es : s = []
                · have wa : S.toList.isEmpty = true := by rw [HS.out, es]; rfl
                  have wa' : (S.toList == []) = true := by rw [HS.out, es]; rfl
                  have cl : s.length ≤ 4096 := by rw [es]; decide
                  have wb : decide ((S.size : Int) ≤ 4096) = true := by rw [HSZ.out]; simp; omega
                  go_wp2_with fail
                  go_ret
                  exact ⟨by rw [← HR.out]; simp [argMayP, hal, hl16, en, es, cl], C2.out.bel⟩
                · have wa : S.toList.isEmpty = false := by rw [HS.out]; cases s with | nil => exact absurd rfl es | cons a b => rfl
                  have wa' : (S.toList == []) = false := by rw [HS.out]; simpa using es
                  go_wp2_with fail
                  go_ret
                  exact ⟨by rw [← HR.out]; simp [argMayP, hal, hl16, en, es], C2.out.bel⟩
              · have w8 : (i == 0) = false := by simpa using ei
                go_wp2_with fail
                go_ret
                exact ⟨by rw [← HR.out]; simp [argMayP, hal, hl16, en, ei], C2.out.bel⟩
            · have w4 : N.toList.isEmpty = false := by rw [HN.out]; cases nm with | nil => exact absurd rfl en | cons a b => rfl
              have w4' : (N.toList == []) = false := by rw [HN.out]; simpa using en
              go_wp2_with fail
              go_ret
              exact ⟨by rw [← HR.out]; simp [argMayP, hal, hl16, en], C2.out.bel⟩
          · clear c1 c2 w1 w2
            by_cases en : nm = []
            · have w4 : N.toList.isEmpty = true := by rw [HN.out, en]; rfl
              have w4' : (N.toList == []) = true := by rw [HN.out, en]; rfl
              by_cases ei : i = 0
              · subst ei
                by_cases es : s = []
                · have wa : S.toList.isEmpty = true := by rw [HS.out, es]; rfl
                  have wa' : (S.toList == []) = true := by rw [HS.out, es]; rfl
                  have cl : s.length ≤ 4096 := by rw [es]; decide
                  have wb : decide ((S.size : Int) ≤ 4096) = true := by rw [HSZ.out]; simp; omega
                  go_wp2_with fail
                  go_ret
                  exact ⟨by rw [← HR.out]; simp [argMayP, hal, hl16, en, es, cl], C2.out.bel⟩
                · have wa : S.toList.isEmpty = false := by rw [HS.out]; cases s with | nil => exact absurd rfl es | cons a b => rfl
                  have wa' : (S.toList == []) = false := by rw [HS.out]; simpa using es
                  go_wp2_with fail
                  go_ret
                  exact ⟨by rw [← HR.out]; simp [argMayP, hal, hl16, en, es], C2.out.bel⟩
              · have w8 : (i == 0) = false := by simpa using ei
                go_wp2_with fail
                go_ret
                exact ⟨by rw [← HR.out]; simp [argMayP, hal, hl16, en, ei], C2.out.bel⟩
            · have w4 : N.toList.isEmpty = false := by rw [HN.out]; cases nm with | nil => exact absurd rfl en | cons a b => rfl
              have w4' : (N.toList == []) = false := by rw [HN.out]; simpa using en
              cases hq : isName nm with
              | true =>
                rw [hq] at cN
                have cQ := cN
                go_wp2_with fail
                refine (cQ.out _).mono ?_
                rintro e w9 ⟨rfl, hb9⟩
                have C2 := hide (C2.out.below hb9)
                have k0 := (cellB (hb9.block _ lK) _).trans k0
                have k1 := (cellB (hb9.block _ lK) _).trans k1
                have k2 := (cellB (hb9.block _ lK) _).trans k2
                have k3 := (cellB (hb9.block _ lK) _).trans k3
                have k4 := (cellB (hb9.block _ lK) _).trans k4
                have lK := Nat.lt_of_lt_of_le lK hb9.size
                clear hb9
                by_cases ei : i = 0
                · subst ei
                  by_cases es : s = []
                  · have wa : S.toList.isEmpty = true := by rw [HS.out, es]; rfl
                    have wa' : (S.toList == []) = true := by rw [HS.out, es]; rfl
                    have cl : s.length ≤ 4096 := by rw [es]; decide
                    have wb : decide ((S.size : Int) ≤ 4096) = true := by rw [HSZ.out]; simp; omega
                    go_wp2_with fail
                    go_ret
                    exact ⟨by rw [← HR.out]; simp [argMayP, hal, hl16, en, hq, es, cl], C2.out.bel⟩
                  · have wa : S.toList.isEmpty = false := by rw [HS.out]; cases s with | nil => exact absurd rfl es | cons a b => rfl
                    have wa' : (S.toList == []) = false := by rw [HS.out]; simpa using es
                    go_wp2_with fail
                    go_ret
                    exact ⟨by rw [← HR.out]; simp [argMayP, hal, hl16, en, hq, es], C2.out.bel⟩
                · have w8 : (i == 0) = false := by simpa using ei
                  go_wp2_with fail
                  go_ret
                  exact ⟨by rw [← HR.out]; simp [argMayP, hal, hl16, en, hq, ei], C2.out.bel⟩
              | false =>
                rw [hq] at cN
                have cQ := cN
                go_wp2_with fail
                refine (cQ.out _).mono ?_
                rintro e w9 ⟨rfl, hb9⟩
                have C2 := hide (C2.out.below hb9)
                have k0 := (cellB (hb9.block _ lK) _).trans k0
                have k1 := (cellB (hb9.block _ lK) _).trans k1
                have k2 := (cellB (hb9.block _ lK) _).trans k2
                have k3 := (cellB (hb9.block _ lK) _).trans k3
                have k4 := (cellB (hb9.block _ lK) _).trans k4
                have lK := Nat.lt_of_lt_of_le lK hb9.size
                clear hb9
                go_wp2_with fail
                go_ret
                exact ⟨by rw [← HR.out]; simp [argMayP, hal, hl16, en, hq], C2.out.bel⟩
          · clear c1 c2 w1 w2
            by_cases en : nm = []
            · have w4 : N.toList.isEmpty = true := by rw [HN.out, en]; rfl
              have w4' : (N.toList == []) = true := by rw [HN.out, en]; rfl
              by_cases ep : path = []
              · have w6 : ((np : Int) == 0) = true := by rw [← HNP.out, ep]; rfl
                by_cases es : s = []
                · have wa : S.toList.isEmpty = true := by rw [HS.out, es]; rfl
                  have wa' : (S.toList == []) = true := by rw [HS.out, es]; rfl
                  have cl : s.length ≤ 4096 := by rw [es]; decide
                  have wb : decide ((S.size : Int) ≤ 4096) = true := by rw [HSZ.out]; simp; omega
                  go_wp2_with fail
                  go_ret
                  exact ⟨by rw [← HR.out]; simp [argMayP, hal, hl16, en, ep, es, cl], C2.out.bel⟩
                · have wa : S.toList.isEmpty = false := by rw [HS.out]; cases s with | nil => exact absurd rfl es | cons a b => rfl
                  have wa' : (S.toList == []) = false := by rw [HS.out]; simpa using es
                  go_wp2_with fail
                  go_ret
                  exact ⟨by rw [← HR.out]; simp [argMayP, hal, hl16, en, ep, es], C2.out.bel⟩
              · have w6 : ((np : Int) == 0) = false := by rw [← HNP.out]; cases path with | nil => exact absurd rfl ep | cons a b => simp; omega
                go_wp2_with fail
                go_ret
                exact ⟨by rw [← HR.out]; simp [argMayP, hal, hl16, en, ep], C2.out.bel⟩
            · have w4 : N.toList.isEmpty = false := by rw [HN.out]; cases nm with | nil => exact absurd rfl en | cons a b => rfl
              have w4' : (N.toList == []) = false := by rw [HN.out]; simpa using en
              go_wp2_with fail
              go_ret
              exact ⟨by rw [← HR.out]; simp [argMayP, hal, hl16, en], C2.out.bel⟩
          · clear c1 c2 w1 w2
            by_cases en : nm = []
            · have w4 : N.toList.isEmpty = true := by rw [HN.out, en]; rfl
              have w4' : (N.toList == []) = true := by rw [HN.out, en]; rfl
              by_cases ep : path = []
              · have w6 : ((np : Int) == 0) = true := by rw [← HNP.out, ep]; rfl
                by_cases ei : i = 0
                · subst ei
                  by_cases cl : s.length ≤ 4096
                  · have wb : decide ((S.size : Int) ≤ 4096) = true := by rw [HSZ.out]; simp; omega
                    go_wp2_with fail
                    go_ret
                    exact ⟨by rw [← HR.out]; simp [argMayP, hal, hl16, en, ep, cl], C2.out.bel⟩
                  · have wb : decide ((S.size : Int) ≤ 4096) = false := by rw [HSZ.out]; simp; omega
                    go_wp2_with fail
                    go_ret
                    exact ⟨by rw [← HR.out]; simp [argMayP, hal, hl16, en, ep, cl], C2.out.bel⟩
                · have w8 : (i == 0) = false := by simpa using ei
                  go_wp2_with fail
                  go_ret
                  exact ⟨by rw [← HR.out]; simp [argMayP, hal, hl16, en, ep, ei], C2.out.bel⟩
              · have w6 : ((np : Int) == 0) = false := by rw [← HNP.out]; cases path with | nil => exact absurd rfl ep | cons a b => simp; omega
                go_wp2_with fail
                go_ret
                exact ⟨by rw [← HR.out]; simp [argMayP, hal, hl16, en, ep], C2.out.bel⟩
            · have w4 : N.toList.isEmpty = false := by rw [HN.out]; cases nm with | nil => exact absurd rfl en | cons a b => rfl
              have w4' : (N.toList == []) = false := by rw [HN.out]; simpa using en
              go_wp2_with fail
              go_ret
              exact ⟨by rw [← HR.out]; simp [argMayP, hal, hl16, en], C2.out.bel⟩
          · clear c1 c2 w1 w2
            by_cases en : nm = []
            · have w4 : N.toList.isEmpty = true := by rw [HN.out, en]; rfl
              have w4' : (N.toList == []) = true := by rw [HN.out, en]; rfl
              by_cases ep : path = []
              · have w6 : ((np : Int) == 0) = true := by rw [← HNP.out, ep]; rfl
                by_cases ei : i = 0
                · subst ei
                  by_cases es : s = []
                  · have wa : S.toList.isEmpty = true := by rw [HS.out, es]; rfl
                    have wa' : (S.toList == []) = true := by rw [HS.out, es]; rfl
                    have cl : s.length ≤ 4096 := by rw [es]; decide
                    have wb : decide ((S.size : Int) ≤ 4096) = true := by rw [HSZ.out]; simp; omega
                    go_wp2_with fail
                    go_ret
                    exact ⟨by rw [← HR.out]; simp [argMayP, hal, hl16, en, ep, es, cl], C2.out.bel⟩
                  · have wa : S.toList.isEmpty = false := by rw [HS.out]; cases s with | nil => exact absurd rfl es | cons a b => rfl
                    have wa' : (S.toList == []) = false := by rw [HS.out]; simpa using es
                    go_wp2_with fail
                    go_ret
                    exact ⟨by rw [← HR.out]; simp [argMayP, hal, hl16, en, ep, es], C2.out.bel⟩
                · have w8 : (i == 0) = false := by simpa using ei
                  go_wp2_with fail
                  go_ret
                  exact ⟨by rw [← HR.out]; simp [argMayP, hal, hl16, en, ep, ei], C2.out.bel⟩
              · have w6 : ((np : Int) == 0) = false := by rw [← HNP.out]; cases path with | nil => exact absurd rfl ep | cons a b => simp; omega
                go_wp2_with fail
                go_ret
                exact ⟨by rw [← HR.out]; simp [argMayP, hal, hl16, en, ep], C2.out.bel⟩
            · have w4 : N.toList.isEmpty = false := by rw [HN.out]; cases nm with | nil => exact absurd rfl en | cons a b => rfl
              have w4' : (N.toList == []) = false := by rw [HN.out]; simpa using en
              go_wp2_with fail
              go_ret
              exact ⟨by rw [← HR.out]; simp [argMayP, hal, hl16, en], C2.out.bel⟩
          · clear c1 c2 w1 w2
            by_cases en : nm = []
            · have w4 : N.toList.isEmpty = true := by rw [HN.out, en]; rfl
              have w4' : (N.toList == []) = true := by rw [HN.out, en]; rfl
              by_cases ep : path = []
              · have w6 : ((np : Int) == 0) = true := by rw [← HNP.out, ep]; rfl
                by_cases ei : i = 0
                · subst ei
                  by_cases es : s = []
                  · have wa : S.toList.isEmpty = true := by rw [HS.out, es]; rfl
                    have wa' : (S.toList == []) = true := by rw [HS.out, es]; rfl
                    have cl : s.length ≤ 4096 := by rw [es]; decide
                    have wb : decide ((S.size : Int) ≤ 4096) = true := by rw [HSZ.out]; simp; omega
                    go_wp2_with fail
                    go_ret
                    exact ⟨by rw [← HR.out]; simp [argMayP, hal, hl16, en, ep, es, cl], C2.out.bel⟩
                  · have wa : S.toList.isEmpty = false := by rw [HS.out]; cases s with | nil => exact absurd rfl es | cons a b => rfl
                    have wa' : (S.toList == []) = false := by rw [HS.out]; simpa using es
                    go_wp2_with fail
                    go_ret
                    exact ⟨by rw [← HR.out]; simp [argMayP, hal, hl16, en, ep, es], C2.out.bel⟩
                · have w8 : (i == 0) = false := by simpa using ei
                  go_wp2_with fail
                  go_ret
                  exact ⟨by rw [← HR.out]; simp [argMayP, hal, hl16, en, ep, ei], C2.out.bel⟩
              · have w6 : ((np : Int) == 0) = false := by rw [← HNP.out]; cases path with | nil => exact absurd rfl ep | cons a b => simp; omega
                go_wp2_with fail
                go_ret
                exact ⟨by rw [← HR.out]; simp [argMayP, hal, hl16, en, ep], C2.out.bel⟩
            · have w4 : N.toList.isEmpty = false := by rw [HN.out]; cases nm with | nil => exact absurd rfl en | cons a b => rfl
              have w4' : (N.toList == []) = false := by rw [HN.out]; simpa using en
              go_wp2_with fail
              go_ret
              exact ⟨by rw [← HR.out]; simp [argMayP, hal, hl16, en], C2.out.bel⟩
          · clear c1 c2 w1 w2
            by_cases en : nm = []
            · have w4 : N.toList.isEmpty = true := by rw [HN.out, en]; rfl
              have w4' : (N.toList == []) = true := by rw [HN.out, en]; rfl
              by_cases ep : path = []
              · have w6 : ((np : Int) == 0) = true := by rw [← HNP.out, ep]; rfl
                by_cases ei : i = 0
                · subst ei
                  by_cases es : s = []
                  · have wa : S.toList.isEmpty = true := by rw [HS.out, es]; rfl
                    have wa' : (S.toList == []) = true := by rw [HS.out, es]; rfl
                    have cl : s.length ≤ 4096 := by rw [es]; decide
                    have wb : decide ((S.size : Int) ≤ 4096) = true := by rw [HSZ.out]; simp; omega
                    go_wp2_with fail
                    go_ret
                    exact ⟨by rw [← HR.out]; simp [argMayP, hal, hl16, en, ep, es, cl], C2.out.bel⟩
                  · have wa : S.toList.isEmpty = false := by rw [HS.out]; cases s with | nil => exact absurd rfl es | cons a b => rfl
                    have wa' : (S.toList == []) = false := by rw [HS.out]; simpa using es
                    go_wp2_with fail
                    go_ret
                    exact ⟨by rw [← HR.out]; simp [argMayP, hal, hl16, en, ep, es], C2.out.bel⟩
                · have w8 : (i == 0) = false := by simpa using ei
                  go_wp2_with fail
                  go_ret
                  exact ⟨by rw [← HR.out]; simp [argMayP, hal, hl16, en, ep, ei], C2.out.bel⟩
              · have w6 : ((np : Int) == 0) = false := by rw [← HNP.out]; cases path with | nil => exact absurd rfl ep | cons a b => simp; omega
                go_wp2_with fail
                go_ret
                exact ⟨by rw [← HR.out]; simp [argMayP, hal, hl16, en, ep], C2.out.bel⟩
            · have w4 : N.toList.isEmpty = false := by rw [HN.out]; cases nm with | nil => exact absurd rfl en | cons a b => rfl
              have w4' : (N.toList == []) = false := by rw [HN.out]; simpa using en
              go_wp2_with fail
              go_ret
              exact ⟨by rw [← HR.out]; simp [argMayP, hal, hl16, en], C2.out.bel⟩
        · have w2 : decide (k ≤ (7 : Int)) = false := by simpa using c2
          go_wp2_with fail
          go_ret
          exact ⟨by rw [← HR.out]; simp [argMayP, hal, hl16, c1, c2]; intros; omega, C2.out.bel⟩
      · have w1 : decide ((1 : Int) ≤ k) = false := by simpa using c1
        go_wp2_with fail
        go_ret
        exact ⟨by rw [← HR.out]; simp [argMayP, hal, hl16, c1]; intros; omega, C2.out.bel⟩
    · have w0 : decide ((16 : Int) < (np : Int)) = true := by rw [← HNP.out]; simp; omega
      go_wp2_with fail
      go_ret
      exact ⟨by rw [← HR.out]; simp [argMayP, hl16], C2.out.bel⟩
end Go.Proofs.YtnepogddjinpoaaGreatDoor

namespace Go.Proofs.YtnepogddjinpoaaGreatDoor
open Go.RowKit
set_option linter.unusedVariables false
set_option linter.unusedSimpArgs false

theorem path_len {x : ArgD} {m : Nat} (h : massA x ≤ m) : x.path.length ≤ m ∧ x.nm.length ≤ m ∧ ∀ p ∈ x.path, p.length ≤ m := by
  unfold massA at h
  have h1 := sumBy_len (fun p : List UInt8 => p.length + 1) (fun _ => by omega) x.path
  refine ⟨by omega, by omega, fun p hp => ?_⟩
  have h2 := sumBy_mem (fun p : List UInt8 => p.length + 1) x.path p hp
  have h2 : p.length + 1 ≤ _ := h2
  omega
theorem argMay_any (U : World → Nat → Prop) (hU : Lasts U) (vs : List Value) (x : ArgD) (w : World) (h : ArgR U w vs x) (hm : massA x ≤ 1048576) : Calls Tryz.prog 101 #[.agg ⟨vs⟩] w fun e w' => e = .returned (.bool (argMayP x)) ∧ Below w.heap.size w w' := by
  obtain ⟨a, c, rfl, hP⟩ := h
  obtain ⟨h1, h2, h3⟩ := path_len hm
  exact argMay_cells x.k x.nm a x.path c x.i x.s U hU w hP (fun p hp => by have := h3 p hp; omega) h1 (by omega)
theorem badArg_any (U : World → Nat → Prop) (hU : Lasts U) (vs : List Value) (x : ArgD) (w : World) (h : ArgR U w vs x) (hm : massA x ≤ 1048576) : Calls Tryz.prog 100 #[.agg ⟨vs⟩] w fun e w' => e = .returned (.bool (!argMayP x)) ∧ Below w.heap.size w w' := by
  have cM := hide (fun W (hb : Below w.heap.size w W) => argMay_any U hU vs x W (ArgR.steady _ _ _ _ (hU.stays hb) _ _ h) hm)
  obtain ⟨a, c, rfl⟩ : ∃ a c, vs = argCells x.k ⟨x.nm.toArray⟩ a x.path.length c x.i ⟨x.s.toArray⟩ := by obtain ⟨a, c, h1, _⟩ := h; exact ⟨a, c, h1⟩
  obtain ⟨q, hq⟩ : ∃ q, argMayP x = q := ⟨_, rfl⟩
  rw [hq]
  simp only [hq] at cM
  clear h hm hq
  go_enter Tryz.func100, Tryz.ntmps100
  go_wp2_with fail
  refine name_world fun W hW => ?_
  have C1 : Chg [] w W := by subst hW; (repeat' (first | with_reducible exact Chg.refl _ _ | with_reducible refine Chg.alloc ?_ _ | with_reducible refine Chg.drew ?_ | with_reducible refine Chg.drewN ?_ _ | with_reducible refine Chg.set_ ?_ _ _ (by first | (simp; done) | (simp; omega) | omega)))
  clear hW
  refine (cM.out W C1.bel).mono ?_
  rintro e w1 ⟨rfl, hb1⟩
  have C2 := hide (C1.below hb1)
  go_wp2_with fail
  go_ret
  exact ⟨rfl, C2.out.bel⟩
set_option maxHeartbeats 1000000 in
set_option maxRecDepth 100000 in
theorem pArity (s : ByteArray) (w : World) : Calls Tryz.prog 102 #[.string s] w fun e w' => e = .returned (.tuple #[.int .i64 (arityB s).1, .int .i64 (arityB s).2.1, .bool (arityB s).2.2]) ∧ w = w' := by
  obtain ⟨R, hR⟩ : ∃ R, arityB s = R := ⟨_, rfl⟩
  rw [hR]
  have HR := hide hR
  clear hR
  go_enter Tryz.func102, Tryz.ntmps102
  rcases Bool.eq_false_or_eq_true (s.toList == [108, 101, 110]) with h0 | h0
  · go_wp2_with fail
    go_ret3
    exact ⟨by rw [← HR.out]; simp [arityB, h0], rfl⟩
  · skip
    rcases Bool.eq_false_or_eq_true (s.toList == [110, 111, 116]) with h1 | h1
    · go_wp2_with fail
      go_ret3
      exact ⟨by rw [← HR.out]; simp [arityB, h0, h1], rfl⟩
    · skip
      rcases Bool.eq_false_or_eq_true (s.toList == [117, 112, 112, 101, 114]) with h2 | h2
      · go_wp2_with fail
        go_ret3
        exact ⟨by rw [← HR.out]; simp [arityB, h0, h1, h2], rfl⟩
      · skip
        rcases Bool.eq_false_or_eq_true (s.toList == [108, 111, 119, 101, 114]) with h3 | h3
        · go_wp2_with fail
          go_ret3
          exact ⟨by rw [← HR.out]; simp [arityB, h0, h1, h2, h3], rfl⟩
        · skip
          rcases Bool.eq_false_or_eq_true (s.toList == [101, 113]) with h4 | h4
          · go_wp2_with fail
            go_ret3
            exact ⟨by rw [← HR.out]; simp [arityB, h0, h1, h2, h3, h4], rfl⟩
          · skip
            rcases Bool.eq_false_or_eq_true (s.toList == [108, 116]) with h5 | h5
            · go_wp2_with fail
              go_ret3
              exact ⟨by rw [← HR.out]; simp [arityB, h0, h1, h2, h3, h4, h5], rfl⟩
            · skip
              rcases Bool.eq_false_or_eq_true (s.toList == [97, 110, 100]) with h6 | h6
              · go_wp2_with fail
                go_ret3
                exact ⟨by rw [← HR.out]; simp [arityB, h0, h1, h2, h3, h4, h5, h6], rfl⟩
              · skip
                rcases Bool.eq_false_or_eq_true (s.toList == [111, 114]) with h7 | h7
                · go_wp2_with fail
                  go_ret3
                  exact ⟨by rw [← HR.out]; simp [arityB, h0, h1, h2, h3, h4, h5, h6, h7], rfl⟩
                · skip
                  rcases Bool.eq_false_or_eq_true (s.toList == [106, 111, 105, 110]) with h8 | h8
                  · go_wp2_with fail
                    go_ret3
                    exact ⟨by rw [← HR.out]; simp [arityB, h0, h1, h2, h3, h4, h5, h6, h7, h8], rfl⟩
                  · skip
                    rcases Bool.eq_false_or_eq_true (s.toList == [100, 101, 102, 97, 117, 108, 116]) with h9 | h9
                    · go_wp2_with fail
                      go_ret3
                      exact ⟨by rw [← HR.out]; simp [arityB, h0, h1, h2, h3, h4, h5, h6, h7, h8, h9], rfl⟩
                    · skip
                      rcases Bool.eq_false_or_eq_true (s.toList == [105, 110, 100, 101, 120]) with h10 | h10
                      · go_wp2_with fail
                        go_ret3
                        exact ⟨by rw [← HR.out]; simp [arityB, h0, h1, h2, h3, h4, h5, h6, h7, h8, h9, h10], rfl⟩
                      · skip
                        rcases Bool.eq_false_or_eq_true (s.toList == [112, 114, 105, 110, 116]) with h11 | h11
                        · go_wp2_with fail
                          go_ret3
                          exact ⟨by rw [← HR.out]; simp [arityB, h0, h1, h2, h3, h4, h5, h6, h7, h8, h9, h10, h11], rfl⟩
                        · skip
                          go_wp2_with fail
                          go_ret3
                          exact ⟨by rw [← HR.out]; simp [arityB, h0, h1, h2, h3, h4, h5, h6, h7, h8, h9, h10, h11], rfl⟩
set_option maxHeartbeats 4000000 in
set_option maxRecDepth 100000 in
theorem callMay_any (U : World → Nat → Prop) (hU : Lasts U) (vs : List Value) (x : CallD) (ahead : Bool) (w : World) (h : CallR U w vs x) (hm : massC x ≤ 1048576) : Calls Tryz.prog 87 #[.agg ⟨vs⟩, .bool ahead] w fun e w' => e = .returned (.bool (callMayP x ahead)) ∧ Below w.heap.size w w' := by
  obtain ⟨a, c, rfl, hA⟩ := h
  have hsm : sumBy massA x.args ≤ 1048576 := by unfold massC at hm; omega
  have hal : x.args.length ≤ 1048576 := Nat.le_trans (sumBy_len massA massA_pos x.args) hsm
  have cC := hide (fun W (hb : Below w.heap.size w W) => containsFuncA 100 #[] (fun _ _ => rfl) U hU (fun y => !argMayP y) x.args a c W (fun W' vs y hb' hy hR => by
    have h := badArg_any U hU vs y W' hR (Nat.le_trans (sumBy_mem massA x.args y hy) hsm)
    obtain ⟨a, c, rfl, _⟩ := hR
    exact h) (hA.on ArgR.steady (hU.stays hb)) hal)
  obtain ⟨nm, args⟩ := x
  simp only at cC hal ⊢
  obtain ⟨R, hR⟩ : ∃ R, callMayP ⟨nm, args⟩ ahead = R := ⟨_, rfl⟩
  rw [hR]
  have HR := hide hR
  obtain ⟨N, hN⟩ : ∃ N : ByteArray, (⟨nm.toArray⟩ : ByteArray) = N := ⟨_, rfl⟩
  have HN : Hid (N.toList = nm) := hide (by rw [← hN, ByteArray.toList_eq])
  have HN2 := hide hN
  obtain ⟨np, hnp⟩ : ∃ np, args.length = np := ⟨_, rfl⟩
  have HNP := hide hnp
  have cR := hide (fun W => pArity N W)
  rw [hN, hnp]
  rw [hnp] at hal
  simp only [hnp] at cC
  clear hR hN hnp hA hsm hm
  cases ha : args.any (fun y => !argMayP y) with
  | true =>
    simp only [ha] at cC
    have hall : args.all argMayP = false := by
      cases h : args.all argMayP with
      | false => rfl
      | true =>
        rw [List.all_eq_true] at h
        obtain ⟨y, hy, h2⟩ := List.any_eq_true.1 ha
        rw [h y hy] at h2
        cases h2
    go_enter Tryz.func87, Tryz.ntmps87
    go_wp2_with fail
    refine name_world fun W hW => ?_
    have C1 : Chg [] w W := by subst hW; (repeat' (first | with_reducible exact Chg.refl _ _ | with_reducible refine Chg.alloc ?_ _ | with_reducible refine Chg.drew ?_ | with_reducible refine Chg.drewN ?_ _ | with_reducible refine Chg.set_ ?_ _ _ (by first | (simp; done) | (simp; omega) | omega)))
    clear hW
    refine (cC.out W C1.bel).mono ?_
    rintro e w1 ⟨rfl, hb1⟩
    have C2 := hide (C1.below hb1)
    go_wp2_with fail
    go_ret
    exact ⟨by rw [← HR.out]; simp [callMayP, hall], C2.out.bel⟩
  | false =>
    simp only [ha] at cC
    have hall : args.all argMayP = true := by
      rw [List.all_eq_true]
      intro y hy
      have h := List.any_eq_false.1 ha y hy
      simpa using h
    clear ha
    go_enter Tryz.func87, Tryz.ntmps87
    go_wp2_with fail
    refine name_world fun W hW => ?_
    have C1 : Chg [] w W := by subst hW; (repeat' (first | with_reducible exact Chg.refl _ _ | with_reducible refine Chg.alloc ?_ _ | with_reducible refine Chg.drew ?_ | with_reducible refine Chg.drewN ?_ _ | with_reducible refine Chg.set_ ?_ _ _ (by first | (simp; done) | (simp; omega) | omega)))
    have K : Blk W w.heap.size 33 #[.string N, .slice a np c] := by subst hW; (repeat' (first | with_reducible exact Blk.new_ (by first | rfl | (simp; done) | (simp; omega)) | with_reducible refine Blk.alloc_ ?_ | with_reducible refine Blk.drew ?_ | with_reducible refine Blk.drewN ?_ _ | with_reducible refine Blk.far_ ?_ (by first | (simp; done) | (simp; omega) | omega) | with_reducible apply Blk.set_eq | rfl))
    clear hW
    refine (cC.out W C1.bel).mono ?_
    rintro e w1 ⟨rfl, hb1⟩
    have C2 := hide (C1.below hb1)
    have K1 := K.chg (Chg.of_below (S := []) hb1) (by simp)
    have k0 := K1.cell 0; have k1 := K1.cell 1; simp at k0 k1
    clear K K1 hb1 C1
    by_cases hnm : nm = []
    · have z1 : N.toList.isEmpty = true := by rw [HN.out, hnm]; rfl
      have z2 : (N.toList == []) = true := by rw [HN.out, hnm]; rfl
      cases ahead with
      | true =>
        go_wp2_with fail
        go_ret
        exact ⟨by rw [← HR.out]; simp [callMayP, hnm], C2.out.bel⟩
      | false =>
        by_cases h1 : np = 1
        · subst h1
          go_wp2_with fail
          go_ret
          exact ⟨by rw [← HR.out]; simp [callMayP, hnm, hall, HNP.out], C2.out.bel⟩
        · have e1 : ((np : Int) == 1) = false := by simp; omega
          go_wp2_with fail
          go_ret
          exact ⟨by rw [← HR.out]; simp [callMayP, hnm, hall, HNP.out, h1], C2.out.bel⟩
    · have z1 : N.toList.isEmpty = false := by rw [HN.out]; cases nm with | nil => exact absurd rfl hnm | cons a b => rfl
      have z2 : (N.toList == []) = false := by rw [HN.out]; simpa using hnm
      obtain ⟨⟨p, q, ok⟩, hq⟩ : ∃ r, arityB N = r := ⟨_, rfl⟩
      rw [hq] at cR
      have HQ : Hid (arityB ⟨nm.toArray⟩ = (p, q, ok)) := hide (by rw [HN2.out]; exact hq)
      clear hq
      cases ok with
      | false =>
        cases ahead with
        | true =>
          go_wp2_with fail
          refine (cR.out _).mono ?_
          rintro e w2 ⟨rfl, rfl⟩
          go_wp2_with fail
          go_ret
          exact ⟨by rw [← HR.out]; simp [callMayP, hnm, hall, HQ.out, HNP.out], C2.out.bel⟩
        | false =>
          go_wp2_with fail
          refine (cR.out _).mono ?_
          rintro e w2 ⟨rfl, rfl⟩
          go_wp2_with fail
          go_ret
          exact ⟨by rw [← HR.out]; simp [callMayP, hnm, hall, HQ.out, HNP.out], C2.out.bel⟩
      | true =>
        cases ahead with
        | false =>
          by_cases h1 : p ≤ (np : Int)
          · have d1 : decide (p ≤ (np : Int)) = true := by simpa using h1
            by_cases h2 : (np : Int) ≤ q
            · have d2 : decide ((np : Int) ≤ q) = true := by simpa using h2
              go_wp2_with fail
              refine (cR.out _).mono ?_
              rintro e w2 ⟨rfl, rfl⟩
              go_wp2_with fail
              go_ret
              exact ⟨by rw [← HR.out]; simp [callMayP, hnm, hall, HQ.out, HNP.out, h1, h2], C2.out.bel⟩
            · have d2 : decide ((np : Int) ≤ q) = false := by simpa using h2
              go_wp2_with fail
              refine (cR.out _).mono ?_
              rintro e w2 ⟨rfl, rfl⟩
              go_wp2_with fail
              go_ret
              exact ⟨by rw [← HR.out]; simp [callMayP, hnm, hall, HQ.out, HNP.out, h1, h2], C2.out.bel⟩
          · have d1 : decide (p ≤ (np : Int)) = false := by simpa using h1
            go_wp2_with fail
            refine (cR.out _).mono ?_
            rintro e w2 ⟨rfl, rfl⟩
            go_wp2_with fail
            go_ret
            exact ⟨by rw [← HR.out]; simp [callMayP, hnm, hall, HQ.out, HNP.out, h1]; intros; omega, C2.out.bel⟩
        | true =>
          by_cases h1 : p ≤ ((np : Int) + 1)
          · have d1 : decide (p ≤ ((np : Int) + 1)) = true := by simpa using h1
            by_cases h2 : ((np : Int) + 1) ≤ q
            · have d2 : decide (((np : Int) + 1) ≤ q) = true := by simpa using h2
              go_wp2_with fail
              refine (cR.out _).mono ?_
              rintro e w2 ⟨rfl, rfl⟩
              go_wp2_with fail
              go_ret
              exact ⟨by rw [← HR.out]; simp [callMayP, hnm, hall, HQ.out, HNP.out, h1, h2], C2.out.bel⟩
            · have d2 : decide (((np : Int) + 1) ≤ q) = false := by simpa using h2
              go_wp2_with fail
              refine (cR.out _).mono ?_
              rintro e w2 ⟨rfl, rfl⟩
              go_wp2_with fail
              go_ret
              exact ⟨by rw [← HR.out]; simp [callMayP, hnm, hall, HQ.out, HNP.out, h1, h2], C2.out.bel⟩
          · have d1 : decide (p ≤ ((np : Int) + 1)) = false := by simpa using h1
            go_wp2_with fail
            refine (cR.out _).mono ?_
            rintro e w2 ⟨rfl, rfl⟩
            go_wp2_with fail
            go_ret
            exact ⟨by rw [← HR.out]; simp [callMayP, hnm, hall, HQ.out, HNP.out, h1]; intros; omega, C2.out.bel⟩
theorem pipeOk_all {l : List CallD} (h0 : l ≠ []) (h16 : l.length ≤ 16) (h : ∀ j x, l[j]? = some x → callMayP x (decide (0 < j)) = true) : pipeOk l = true := by
  cases l with
  | nil => exact absurd rfl h0
  | cons c r =>
    have h1 := h 0 c rfl
    unfold pipeOk
    simp only [Bool.and_eq_true, decide_eq_true_eq, List.all_eq_true]
    refine ⟨⟨by simp at h16; omega, by simpa using h1⟩, fun x hx => ?_⟩
    obtain ⟨j, hj⟩ := List.getElem?_of_mem hx
    have := h (j + 1) x (by simpa using hj)
    simpa using this
theorem pipeOk_not {l : List CallD} {j : Nat} {x : CallD} (hx : l[j]? = some x) (h : callMayP x (decide (0 < j)) = false) : pipeOk l = false := by
  cases l with
  | nil => simp at hx
  | cons c r =>
    unfold pipeOk
    cases j with
    | zero =>
      simp at hx
      subst hx
      have h : callMayP c false = false := h
      show (decide (r.length < 16) && callMayP c false && r.all fun c => callMayP c true) = false
      rw [h]; simp
    | succ j =>
      have hr : r[j]? = some x := by simpa using hx
      have h' : callMayP x true = false := by simpa using h
      have : (r.all fun c => callMayP c true) = false := by
        cases hh : (r.all fun c => callMayP c true) with
        | false => rfl
        | true => rw [List.all_eq_true] at hh; have := hh x (List.mem_of_getElem? hr); rw [h'] at this; cases this
      show (decide (r.length < 16) && callMayP c false && r.all fun c => callMayP c true) = false
      rw [this]; simp
set_option maxHeartbeats 4000000 in
set_option maxRecDepth 100000 in
theorem pipeCheck_any (U : World → Nat → Prop) (hU : Lasts U) (a : Option Addr) (c : Nat) (l : List CallD) (w : World) (h : AtR CallR 2 U w a l) (hm : sumBy massC l ≤ 1048576) : Calls Tryz.prog 63 #[.slice a l.length c] w fun e w' => e = .returned (.int .i64 (if pipeOk l then 0 else 9)) ∧ Below w.heap.size w w' := by
  obtain ⟨R, hR⟩ : ∃ R : Int, (if pipeOk l then (0 : Int) else 9) = R := ⟨_, rfl⟩
  rw [hR]
  have HR := hide hR
  have H := hide h; have HM := hide hm
  clear hR h hm
  by_cases h1 : l.length < 1
  · have hl : l = [] := by cases l with | nil => rfl | cons _ _ => simp at h1
    subst hl
    go_enter Tryz.func63, Tryz.ntmps63
    go_wp2_with fail
    go_ret
    exact ⟨by rw [← HR.out]; rfl, Below.refl _ _⟩
  have d1 : decide ((l.length : Int) < 1) = false := decide_eq_false (by omega)
  have d1' : decide (l.length < 1) = false := decide_eq_false (by omega)
  by_cases h2 : 16 < l.length
  · have d2 : decide ((16 : Int) < (l.length : Int)) = true := decide_eq_true (by omega)
    have hp : pipeOk l = false := by
      cases l with
      | nil => rfl
      | cons c r => unfold pipeOk; simp at h2; simp; omega
    go_enter Tryz.func63, Tryz.ntmps63
    go_wp2_with fail
    go_ret
    exact ⟨by rw [← HR.out, hp]; rfl, Below.refl _ _⟩
  have d2 : decide ((16 : Int) < (l.length : Int)) = false := decide_eq_false (by omega)
  have hne : l ≠ [] := by intro e; subst e; simp at h1
  go_enter Tryz.func63, Tryz.ntmps63
  go_wp2_with fail
  go_loopw [15] (fun iv wr => ∃ (j : Nat), iv = .int .i64 (j : Int) ∧ j ≤ l.length ∧ Hid (∀ i x, i < j → l[i]? = some x → callMayP x (decide (0 < i)) = true) ∧ Hid (Below w.heap.size w wr)) (fun iv _ => l.length - (intOf iv).toNat)
  case atStart => exact ⟨0, rfl, Nat.zero_le _, hide (fun i x hi => absurd hi (by omega)), hide (Below.refl _ _)⟩
  case round =>
    obtain ⟨j, rfl, hjl, hall, hJ⟩ := hrel
    by_cases hlt : j < l.length
    · obtain ⟨x, hx⟩ : ∃ x, l[j]? = some x := ⟨_, List.getElem?_eq_getElem hlt⟩
      obtain ⟨g, o, vs, rfl, hg, _, _, hcell, hN⟩ := (H.out.on CallR.steady (hU.stays hJ.out)) j x hx
      have cM := hide (fun W (hb : Below wr.heap.size wr W) => callMay_any U hU vs x (decide (0 < j)) W (CallR.steady _ _ _ _ (hU.stays hb) _ _ hN) (Nat.le_trans (sumBy_mem massC l x (List.mem_of_getElem? hx)) HM.out))
      obtain ⟨a1, c1, rfl, _⟩ := hN
      have f0 := hcell 0 _ rfl; have f1 := hcell 1 _ rfl
      simp only [Nat.add_zero] at f0
      have hji : (j : Int) < (l.length : Int) := by omega
      have hj9 : j < 16 := by omega
      have HLT := hide hlt
      have HX := hide hx
      obtain ⟨b, hb0⟩ : ∃ b, decide (0 < j) = b := ⟨_, rfl⟩
      have e1 : decide ((0 : Int) < (j : Int)) = b := by rw [← hb0]; simp
      cases hm : callMayP x b with
      | true =>
        have hok : callMayP x (decide (0 < j)) = true := by rw [hb0]; exact hm
        have HOK := hide hok
        simp only [hb0, hm] at cM
        clear hcell hx hlt hjl hok hm
        go_wp2_with fail
        refine name_world fun W hW => ?_
        have C1 : Chg [] wr W := by subst hW; (repeat' (first | with_reducible exact Chg.refl _ _ | with_reducible refine Chg.alloc ?_ _ | with_reducible refine Chg.drew ?_ | with_reducible refine Chg.drewN ?_ _ | with_reducible refine Chg.set_ ?_ _ _ (by first | (simp; done) | (simp; omega) | omega)))
        clear hW
        refine (cM.out W C1.bel).mono ?_
        rintro e w1 ⟨rfl, hb1⟩
        have C2 := hide (C1.below hb1)
        go_wp2_with fail
        have hlt := HLT.out
        go_roundw
        case rel =>
          refine ⟨j + 1, by go_num, by omega, hide (fun i y hi hy => ?_), hide (hJ.out.trans (C2.out.bel.mono hJ.out.size))⟩
          rcases Nat.lt_or_ge i j with h | h
          · exact hall.out i y h hy
          · obtain rfl : i = j := by omega
            have := HX.out.symm.trans hy
            injection this with this
            subst this
            exact HOK.out
        case measure => simp [intOf]; omega
      | false =>
        have hok : callMayP x (decide (0 < j)) = false := by rw [hb0]; exact hm
        have HOK := hide hok
        simp only [hb0, hm] at cM
        clear hcell hx hlt hjl hok hm
        go_wp2_with fail
        refine name_world fun W hW => ?_
        have C1 : Chg [] wr W := by subst hW; (repeat' (first | with_reducible exact Chg.refl _ _ | with_reducible refine Chg.alloc ?_ _ | with_reducible refine Chg.drew ?_ | with_reducible refine Chg.drewN ?_ _ | with_reducible refine Chg.set_ ?_ _ _ (by first | (simp; done) | (simp; omega) | omega)))
        clear hW
        refine (cM.out W C1.bel).mono ?_
        rintro e w1 ⟨rfl, hb1⟩
        have C2 := hide (C1.below hb1)
        go_wp2_with fail
        go_ret
        exact ⟨by rw [← HR.out, pipeOk_not HX.out HOK.out]; rfl, hJ.out.trans (C2.out.bel.mono hJ.out.size)⟩
    · obtain rfl : j = l.length := by omega
      have hok := hide (pipeOk_all hne (by omega) (fun i x hx => hall.out i x (List.getElem?_eq_some_iff.1 hx).1 hx))
      have hif : decide ((l.length : Int) < (l.length : Int)) = false := by simp
      clear hjl hlt
      go_wp2_with fail
      go_ret
      exact ⟨by rw [← HR.out, hok.out]; rfl, hJ.out⟩
end Go.Proofs.YtnepogddjinpoaaGreatDoor

namespace Go.Proofs.YtnepogddjinpoaaGreatDoor
open Go.RowKit
set_option linter.unusedVariables false
set_option linter.unusedSimpArgs false

theorem any_not {α : Type} (p : α → Bool) : ∀ l : List α, (l.any fun y => !p y) = !(l.all p) := by
  intro l
  induction l with
  | nil => rfl
  | cons x l ih => simp only [List.any_cons, List.all_cons, ih, Bool.not_and]
set_option maxHeartbeats 2000000 in
set_option maxRecDepth 100000 in
theorem bad_any (u k pos esc unit : Int) (s nm : ByteArray) (a1 : Option Addr) (n1 c1 : Nat) (a2 : Option Addr) (n2 c2 : Nat) (a3 : Option Addr) (n3 c3 B : Nat) (W : World) (q : Bool) (hB : B < W.heap.size) (hc : W.cell? ⟨B, 0, none⟩ = some (.int .i64 u))
    (cM : ∀ W', Below W.heap.size W W' → Calls Tryz.prog 52 #[.agg ⟨nodeCells k s nm a1 n1 c1 a2 n2 c2 a3 n3 c3 pos esc unit⟩, .int .i64 u] W' fun e w' => e = .returned (.bool q) ∧ Below W'.heap.size W' w') :
    Calls Tryz.prog 64 #[.agg ⟨nodeCells k s nm a1 n1 c1 a2 n2 c2 a3 n3 c3 pos esc unit⟩, .pointer (some ⟨B, 0, none⟩)] W fun e w' => e = .returned (.bool (!q)) ∧ Below W.heap.size W w' := by
  have cM := hide cM
  go_enter Tryz.func64, Tryz.ntmps64
  go_wp2_with fail
  refine name_world fun W1 hW => ?_
  have C1 : Chg [] W W1 := by subst hW; (repeat' (first | with_reducible exact Chg.refl _ _ | with_reducible refine Chg.alloc ?_ _ | with_reducible refine Chg.drew ?_ | with_reducible refine Chg.drewN ?_ _ | with_reducible refine Chg.set_ ?_ _ _ (by first | (simp; done) | (simp; omega) | omega)))
  clear hW
  refine (cM.out W1 C1.bel).mono ?_
  rintro e w1 ⟨rfl, hb1⟩
  have C2 := hide (C1.below hb1)
  go_wp2_with fail
  go_ret
  exact ⟨rfl, C2.out.bel⟩
end Go.Proofs.YtnepogddjinpoaaGreatDoor

namespace Go.Proofs.YtnepogddjinpoaaGreatDoor
open Go.RowKit
set_option linter.unusedVariables false
set_option linter.unusedSimpArgs false

theorem bare_len (n : Nat) (l : List (NT n)) : l.length ≤ sumBy (bareN n) l := by
  cases n with
  | zero => cases l with | nil => exact Nat.le_refl _ | cons x _ => exact x.elim
  | succ n =>
    refine sumBy_len (bareN (n + 1)) (fun x => ?_) l
    show 1 ≤ 1 + (NN.nm x).length + sumBy massC (NN.pipe x) + sumBy (bareN n) (NN.body x) + sumBy (bareN n) (NN.els x)
    omega
set_option maxHeartbeats 20000000 in
set_option maxRecDepth 100000 in
theorem may_any : ∀ (n : Nat) (u : Int) (U : World → Nat → Prop) (hU : Lasts U) (vs : List Value) (x : NT n) (w : World), NodeR n U w vs x → bareN n x ≤ 1048576 →
    Calls Tryz.prog 52 #[.agg ⟨vs⟩, .int .i64 u] w fun e w' => e = .returned (.bool (mayN u n x)) ∧ Below w.heap.size w w' := by
  intro n
  induction n with
  | zero => intro u U hU vs x w _ _; exact x.elim
  | succ n ih =>
    intro u U hU vs x w h hm
    obtain ⟨a1, c1, a2, c2, a3, c3, rfl, q1, q2, q3⟩ := NodeR.parts h
    obtain ⟨k, s, nm, pipe, body, els, pos, esc, unit⟩ := x
    have hb : 1 + nm.length + sumBy massC pipe + sumBy (bareN n) body + sumBy (bareN n) els ≤ 1048576 := hm
    simp only at q1 q2 q3 ⊢
    have cP := hide (fun W (hb' : Below w.heap.size w W) => pipeCheck_any U hU a1 c1 pipe W (q1.on CallR.steady (hU.stays hb')) (by omega))
    have key : ∀ (aa : Option Addr) (cc : Nat) (l : List (NT n)), AtR (NodeR n) 9 U w aa l → sumBy (bareN n) l ≤ 1048576 → ∀ W, Below w.heap.size w W → Blk W (w.heap.size + 1) 3 #[.int .i64 u] → Calls Tryz.prog 50 #[.slice aa l.length cc, .func (.func 64) #[] #[.pointer (some ⟨w.heap.size + 1, 0, none⟩)]] W fun e w' => e = .returned (.bool (!(l.all (mayN u n)))) ∧ Below W.heap.size W w' := by
      intro aa cc l hl hs W hW hK
      have hh := containsFuncN n 64 #[.pointer (some ⟨w.heap.size + 1, 0, none⟩)] (fun _ _ => rfl) U hU (fun y => !mayN u n y) l aa cc W (fun W' vs y hb' hy hR => by
        have K' := hK.chg (Chg.of_below (S := []) hb') (by simp)
        have hc := K'.cell 0
        simp at hc
        have hlt := K'.lt
        have cM := fun W'' (hb'' : Below W'.heap.size W' W'') => ih u U hU vs y W'' (NodeR.steady n _ _ _ _ (hU.stays hb'') _ _ hR) (Nat.le_trans (sumBy_mem (bareN n) l y hy) hs)
        cases n with
        | zero => exact y.elim
        | succ m =>
          obtain ⟨b1, d1, b2, d2, b3, d3, rfl, _, _, _⟩ := NodeR.parts hR
          exact bad_any u _ _ _ _ _ _ _ _ _ _ _ _ _ _ _ (w.heap.size + 1) W' _ hlt hc cM) (hl.on (NodeR.steady n) (hU.stays hW)) (Nat.le_trans (bare_len n l) hs)
      rw [any_not] at hh
      exact hh
    have cB := hide (key a2 c2 body q2 (by omega))
    have cE := hide (key a3 c3 els q3 (by omega))
    clear key q1 q2 q3 h hm ih
    obtain ⟨R, hR⟩ : ∃ R, mayN u (n + 1) (⟨k, s, nm, pipe, body, els, pos, esc, unit⟩ : NN (NT n)) = R := ⟨_, rfl⟩
    rw [hR]
    have hR2 : (headMay (α := NT n) u ⟨k, s, nm, pipe, body, els, pos, esc, unit⟩ && body.all (mayN u n) && els.all (mayN u n)) = R := hR
    obtain ⟨p1, hp1⟩ : ∃ p, body.all (mayN u n) = p := ⟨_, rfl⟩
    obtain ⟨p2, hp2⟩ : ∃ p, els.all (mayN u n) = p := ⟨_, rfl⟩
    obtain ⟨ok, hok⟩ : ∃ p, pipeOk pipe = p := ⟨_, rfl⟩
    obtain ⟨np, hnp⟩ : ∃ m, pipe.length = m := ⟨_, rfl⟩
    obtain ⟨nb, hnb⟩ : ∃ m, body.length = m := ⟨_, rfl⟩
    obtain ⟨ne, hne⟩ : ∃ m, els.length = m := ⟨_, rfl⟩
    obtain ⟨S, hS⟩ : ∃ S : ByteArray, (⟨s.toArray⟩ : ByteArray) = S := ⟨_, rfl⟩
    obtain ⟨N, hN⟩ : ∃ N : ByteArray, (⟨nm.toArray⟩ : ByteArray) = N := ⟨_, rfl⟩
    rw [hp1, hp2] at hR2
    have HR := hide hR2
    have HOK := hide hok
    have HNP := hide hnp
    simp only [hp1, hnb] at cB
    simp only [hp2, hne] at cE
    simp only [hok, hnp] at cP
    rw [hnp, hnb, hne, hS, hN]
    clear hR hR2 hp1 hp2 hok hnp hnb hne hS hN hb
    by_cases g1 : 1 ≤ k
    · have v1 : decide (k < (1 : Int)) = false := decide_eq_false (by omega)
      by_cases g2 : k ≤ 7
      · have v2 : decide ((7 : Int) < k) = false := decide_eq_false (by omega)
        rcases (show k = 1 ∨ k = 2 ∨ k = 3 ∨ k = 4 ∨ k = 5 ∨ k = 6 ∨ k = 7 by omega) with rfl | rfl | rfl | rfl | rfl | rfl | rfl
        · clear g1 g2 v1 v2
          go_enter Tryz.func52, Tryz.ntmps52
          go_wp2_with fail
          refine name_world fun W hW => ?_
          have C1 : Chg [] w W := by subst hW; (repeat' (first | with_reducible exact Chg.refl _ _ | with_reducible refine Chg.alloc ?_ _ | with_reducible refine Chg.drew ?_ | with_reducible refine Chg.drewN ?_ _ | with_reducible refine Chg.set_ ?_ _ _ (by first | (simp; done) | (simp; omega) | omega)))
          have KN1 : Blk W w.heap.size 61 #[.int .i64 1, .string S, .string N, .slice a1 np c1, .slice a2 nb c2, .slice a3 ne c3, .int .i64 pos, .int .i64 esc, .int .i64 unit] := by subst hW; (repeat' (first | with_reducible exact Blk.new_ (by first | rfl | (simp; done) | (simp; omega)) | with_reducible refine Blk.alloc_ ?_ | with_reducible refine Blk.drew ?_ | with_reducible refine Blk.drewN ?_ _ | with_reducible refine Blk.far_ ?_ (by first | (simp; done) | (simp; omega) | omega) | with_reducible apply Blk.set_eq | rfl))
          have KU1 : Blk W (w.heap.size + 1) 3 #[.int .i64 u] := by subst hW; (repeat' (first | with_reducible exact Blk.new_ (by first | rfl | (simp; done) | (simp; omega)) | with_reducible refine Blk.alloc_ ?_ | with_reducible refine Blk.drew ?_ | with_reducible refine Blk.drewN ?_ _ | with_reducible refine Blk.far_ ?_ (by first | (simp; done) | (simp; omega) | omega) | with_reducible apply Blk.set_eq | rfl))
          clear hW
          refine (cB.out W C1.bel KU1).mono ?_
          rintro e w3 ⟨rfl, hb1⟩
          cases hp1 : p1 with
          | false =>
            have C2 := hide (C1.below hb1)
            go_wp2_with fail
            go_ret
            exact ⟨by rw [← HR.out]; simp [headMay, hp1], C2.out.bel⟩
          | true =>
            have KN2 := KN1.chg (Chg.of_below (S := []) hb1) (by simp)
            have KU2 := KU1.chg (Chg.of_below (S := []) hb1) (by simp)
            have C2 := C1.below hb1
            have y0 := KN2.cell 0; have y1 := KN2.cell 1; have y2 := KN2.cell 2; have y3 := KN2.cell 3; have y4 := KN2.cell 4; have y5 := KN2.cell 5; have y6 := KN2.cell 6; have y7 := KN2.cell 7; have y8 := KN2.cell 8; simp at y0 y1 y2 y3 y4 y5 y6 y7 y8
            clear KN2 KN1 hb1
            go_wp2_with fail
            refine (cE.out w3 C2.bel KU2).mono ?_
            rintro e w4 ⟨rfl, hb4⟩
            have C4 := hide (C2.below hb4)
            go_wp2_with fail
            go_ret
            exact ⟨by rw [← HR.out]; simp [headMay, hp1], C4.out.bel⟩
        · clear g1 g2 v1 v2
          by_cases e1 : 1 ≤ esc
          · have x1 : decide (esc < (1 : Int)) = false := decide_eq_false (by omega)
            by_cases e2 : esc ≤ 12
            · have x2 : decide ((12 : Int) < esc) = false := decide_eq_false (by omega)
              go_enter Tryz.func52, Tryz.ntmps52
              go_wp2_with fail
              refine name_world fun W hW => ?_
              have C1 : Chg [] w W := by subst hW; (repeat' (first | with_reducible exact Chg.refl _ _ | with_reducible refine Chg.alloc ?_ _ | with_reducible refine Chg.drew ?_ | with_reducible refine Chg.drewN ?_ _ | with_reducible refine Chg.set_ ?_ _ _ (by first | (simp; done) | (simp; omega) | omega)))
              have KN1 : Blk W w.heap.size 61 #[.int .i64 2, .string S, .string N, .slice a1 np c1, .slice a2 nb c2, .slice a3 ne c3, .int .i64 pos, .int .i64 esc, .int .i64 unit] := by subst hW; (repeat' (first | with_reducible exact Blk.new_ (by first | rfl | (simp; done) | (simp; omega)) | with_reducible refine Blk.alloc_ ?_ | with_reducible refine Blk.drew ?_ | with_reducible refine Blk.drewN ?_ _ | with_reducible refine Blk.far_ ?_ (by first | (simp; done) | (simp; omega) | omega) | with_reducible apply Blk.set_eq | rfl))
              have KU1 : Blk W (w.heap.size + 1) 3 #[.int .i64 u] := by subst hW; (repeat' (first | with_reducible exact Blk.new_ (by first | rfl | (simp; done) | (simp; omega)) | with_reducible refine Blk.alloc_ ?_ | with_reducible refine Blk.drew ?_ | with_reducible refine Blk.drewN ?_ _ | with_reducible refine Blk.far_ ?_ (by first | (simp; done) | (simp; omega) | omega) | with_reducible apply Blk.set_eq | rfl))
              clear hW
              refine (cP.out W C1.bel).mono ?_
              rintro e w2 ⟨rfl, hb2⟩
              have C1 := C1.below hb2
              have KN1 := KN1.chg (Chg.of_below (S := []) hb2) (by simp)
              have KU1 := KU1.chg (Chg.of_below (S := []) hb2) (by simp)
              have KN2 := KN1
              clear hb2
              have k0 := KN2.cell 0; have k1 := KN2.cell 1; have k2 := KN2.cell 2; have k3 := KN2.cell 3; have k4 := KN2.cell 4; have k5 := KN2.cell 5; have k6 := KN2.cell 6; have k7 := KN2.cell 7; have k8 := KN2.cell 8; simp at k0 k1 k2 k3 k4 k5 k6 k7 k8
              have lK := KN2.lt
              clear KN2
              cases hok : ok with
              | false =>
                have C2 := hide C1
                simp only [Bool.false_eq_true, if_false]
                go_wp2_with fail
                go_ret
                exact ⟨by rw [← HR.out]; simp [headMay, HOK.out, hok, e1, e2], C2.out.bel⟩
              | true =>
                simp only [if_true]
                go_wp2_with fail
                refine name_world fun W5 hW5 => ?_
                have C15 : Chg [] w2 W5 := by subst hW5; (repeat' (first | with_reducible exact Chg.refl _ _ | with_reducible refine Chg.alloc ?_ _ | with_reducible refine Chg.drew ?_ | with_reducible refine Chg.drewN ?_ _ | with_reducible refine Chg.set_ ?_ _ _ (by first | (simp; done) | (simp; omega) | omega)))
                clear hW5
                have KN1 := KN1.chg C15 (by simp)
                have KU1 := KU1.chg C15 (by simp)
                have C1 := C1.trans C15 (by simp)
                obtain ⟨W, hW⟩ : ∃ W, W5 = W := ⟨_, rfl⟩
                subst hW
                refine (cB.out W5 C1.bel KU1).mono ?_
                rintro e w3 ⟨rfl, hb1⟩
                cases hp1 : p1 with
                | false =>
                  have C2 := hide (C1.below hb1)
                  go_wp2_with fail
                  go_ret
                  exact ⟨by rw [← HR.out]; simp [headMay, hp1], C2.out.bel⟩
                | true =>
                  have KN2 := KN1.chg (Chg.of_below (S := []) hb1) (by simp)
                  have KU2 := KU1.chg (Chg.of_below (S := []) hb1) (by simp)
                  have C2 := C1.below hb1
                  have y0 := KN2.cell 0; have y1 := KN2.cell 1; have y2 := KN2.cell 2; have y3 := KN2.cell 3; have y4 := KN2.cell 4; have y5 := KN2.cell 5; have y6 := KN2.cell 6; have y7 := KN2.cell 7; have y8 := KN2.cell 8; simp at y0 y1 y2 y3 y4 y5 y6 y7 y8
                  clear KN2 KN1 hb1
                  go_wp2_with fail
                  refine (cE.out w3 C2.bel KU2).mono ?_
                  rintro e w4 ⟨rfl, hb4⟩
                  have C4 := hide (C2.below hb4)
                  go_wp2_with fail
                  go_ret
                  exact ⟨by rw [← HR.out]; simp [headMay, hp1, HOK.out, hok, e1, e2], C4.out.bel⟩
            · have x2 : decide ((12 : Int) < esc) = true := decide_eq_true (by omega)
              go_enter Tryz.func52, Tryz.ntmps52
              go_wp2_with fail
              go_ret
              refine ⟨by rw [← HR.out]; simp [headMay, e1, e2] <;> (intros; omega), ?_⟩
              refine name_it (C := fun W => Below w.heap.size w W) fun W hW => ?_
              have C1 : Chg [] w W := by subst hW; (repeat' (first | with_reducible exact Chg.refl _ _ | with_reducible refine Chg.alloc ?_ _ | with_reducible refine Chg.drew ?_ | with_reducible refine Chg.drewN ?_ _ | with_reducible refine Chg.set_ ?_ _ _ (by first | (simp; done) | (simp; omega) | omega)))
              exact C1.bel
          · have x1 : decide (esc < (1 : Int)) = true := decide_eq_true (by omega)
            go_enter Tryz.func52, Tryz.ntmps52
            go_wp2_with fail
            go_ret
            refine ⟨by rw [← HR.out]; simp [headMay, e1] <;> (intros; omega), ?_⟩
            refine name_it (C := fun W => Below w.heap.size w W) fun W hW => ?_
            have C1 : Chg [] w W := by subst hW; (repeat' (first | with_reducible exact Chg.refl _ _ | with_reducible refine Chg.alloc ?_ _ | with_reducible refine Chg.drew ?_ | with_reducible refine Chg.drewN ?_ _ | with_reducible refine Chg.set_ ?_ _ _ (by first | (simp; done) | (simp; omega) | omega)))
            exact C1.bel
        · clear g1 g2 v1 v2
          go_enter Tryz.func52, Tryz.ntmps52
          go_wp2_with fail
          refine name_world fun W hW => ?_
          have C1 : Chg [] w W := by subst hW; (repeat' (first | with_reducible exact Chg.refl _ _ | with_reducible refine Chg.alloc ?_ _ | with_reducible refine Chg.drew ?_ | with_reducible refine Chg.drewN ?_ _ | with_reducible refine Chg.set_ ?_ _ _ (by first | (simp; done) | (simp; omega) | omega)))
          have KN1 : Blk W w.heap.size 61 #[.int .i64 3, .string S, .string N, .slice a1 np c1, .slice a2 nb c2, .slice a3 ne c3, .int .i64 pos, .int .i64 esc, .int .i64 unit] := by subst hW; (repeat' (first | with_reducible exact Blk.new_ (by first | rfl | (simp; done) | (simp; omega)) | with_reducible refine Blk.alloc_ ?_ | with_reducible refine Blk.drew ?_ | with_reducible refine Blk.drewN ?_ _ | with_reducible refine Blk.far_ ?_ (by first | (simp; done) | (simp; omega) | omega) | with_reducible apply Blk.set_eq | rfl))
          have KU1 : Blk W (w.heap.size + 1) 3 #[.int .i64 u] := by subst hW; (repeat' (first | with_reducible exact Blk.new_ (by first | rfl | (simp; done) | (simp; omega)) | with_reducible refine Blk.alloc_ ?_ | with_reducible refine Blk.drew ?_ | with_reducible refine Blk.drewN ?_ _ | with_reducible refine Blk.far_ ?_ (by first | (simp; done) | (simp; omega) | omega) | with_reducible apply Blk.set_eq | rfl))
          clear hW
          refine (cP.out W C1.bel).mono ?_
          rintro e w2 ⟨rfl, hb2⟩
          have C1 := C1.below hb2
          have KN1 := KN1.chg (Chg.of_below (S := []) hb2) (by simp)
          have KU1 := KU1.chg (Chg.of_below (S := []) hb2) (by simp)
          have KN2 := KN1
          clear hb2
          have k0 := KN2.cell 0; have k1 := KN2.cell 1; have k2 := KN2.cell 2; have k3 := KN2.cell 3; have k4 := KN2.cell 4; have k5 := KN2.cell 5; have k6 := KN2.cell 6; have k7 := KN2.cell 7; have k8 := KN2.cell 8; simp at k0 k1 k2 k3 k4 k5 k6 k7 k8
          have lK := KN2.lt
          clear KN2
          cases hok : ok with
          | false =>
            have C2 := hide C1
            simp only [Bool.false_eq_true, if_false]
            go_wp2_with fail
            go_ret
            exact ⟨by rw [← HR.out]; simp [headMay, HOK.out, hok], C2.out.bel⟩
          | true =>
            simp only [if_true]
            go_wp2_with fail
            refine name_world fun W5 hW5 => ?_
            have C15 : Chg [] w2 W5 := by subst hW5; (repeat' (first | with_reducible exact Chg.refl _ _ | with_reducible refine Chg.alloc ?_ _ | with_reducible refine Chg.drew ?_ | with_reducible refine Chg.drewN ?_ _ | with_reducible refine Chg.set_ ?_ _ _ (by first | (simp; done) | (simp; omega) | omega)))
            clear hW5
            have KN1 := KN1.chg C15 (by simp)
            have KU1 := KU1.chg C15 (by simp)
            have C1 := C1.trans C15 (by simp)
            obtain ⟨W, hW⟩ : ∃ W, W5 = W := ⟨_, rfl⟩
            subst hW
            refine (cB.out W5 C1.bel KU1).mono ?_
            rintro e w3 ⟨rfl, hb1⟩
            cases hp1 : p1 with
            | false =>
              have C2 := hide (C1.below hb1)
              go_wp2_with fail
              go_ret
              exact ⟨by rw [← HR.out]; simp [headMay, hp1], C2.out.bel⟩
            | true =>
              have KN2 := KN1.chg (Chg.of_below (S := []) hb1) (by simp)
              have KU2 := KU1.chg (Chg.of_below (S := []) hb1) (by simp)
              have C2 := C1.below hb1
              have y0 := KN2.cell 0; have y1 := KN2.cell 1; have y2 := KN2.cell 2; have y3 := KN2.cell 3; have y4 := KN2.cell 4; have y5 := KN2.cell 5; have y6 := KN2.cell 6; have y7 := KN2.cell 7; have y8 := KN2.cell 8; simp at y0 y1 y2 y3 y4 y5 y6 y7 y8
              clear KN2 KN1 hb1
              go_wp2_with fail
              refine (cE.out w3 C2.bel KU2).mono ?_
              rintro e w4 ⟨rfl, hb4⟩
              have C4 := hide (C2.below hb4)
              go_wp2_with fail
              go_ret
              exact ⟨by rw [← HR.out]; simp [headMay, hp1, HOK.out, hok], C4.out.bel⟩
        · clear g1 g2 v1 v2
          go_enter Tryz.func52, Tryz.ntmps52
          go_wp2_with fail
          refine name_world fun W hW => ?_
          have C1 : Chg [] w W := by subst hW; (repeat' (first | with_reducible exact Chg.refl _ _ | with_reducible refine Chg.alloc ?_ _ | with_reducible refine Chg.drew ?_ | with_reducible refine Chg.drewN ?_ _ | with_reducible refine Chg.set_ ?_ _ _ (by first | (simp; done) | (simp; omega) | omega)))
          have KN1 : Blk W w.heap.size 61 #[.int .i64 4, .string S, .string N, .slice a1 np c1, .slice a2 nb c2, .slice a3 ne c3, .int .i64 pos, .int .i64 esc, .int .i64 unit] := by subst hW; (repeat' (first | with_reducible exact Blk.new_ (by first | rfl | (simp; done) | (simp; omega)) | with_reducible refine Blk.alloc_ ?_ | with_reducible refine Blk.drew ?_ | with_reducible refine Blk.drewN ?_ _ | with_reducible refine Blk.far_ ?_ (by first | (simp; done) | (simp; omega) | omega) | with_reducible apply Blk.set_eq | rfl))
          have KU1 : Blk W (w.heap.size + 1) 3 #[.int .i64 u] := by subst hW; (repeat' (first | with_reducible exact Blk.new_ (by first | rfl | (simp; done) | (simp; omega)) | with_reducible refine Blk.alloc_ ?_ | with_reducible refine Blk.drew ?_ | with_reducible refine Blk.drewN ?_ _ | with_reducible refine Blk.far_ ?_ (by first | (simp; done) | (simp; omega) | omega) | with_reducible apply Blk.set_eq | rfl))
          clear hW
          refine (cP.out W C1.bel).mono ?_
          rintro e w2 ⟨rfl, hb2⟩
          have C1 := C1.below hb2
          have KN1 := KN1.chg (Chg.of_below (S := []) hb2) (by simp)
          have KU1 := KU1.chg (Chg.of_below (S := []) hb2) (by simp)
          have KN2 := KN1
          clear hb2
          have k0 := KN2.cell 0; have k1 := KN2.cell 1; have k2 := KN2.cell 2; have k3 := KN2.cell 3; have k4 := KN2.cell 4; have k5 := KN2.cell 5; have k6 := KN2.cell 6; have k7 := KN2.cell 7; have k8 := KN2.cell 8; simp at k0 k1 k2 k3 k4 k5 k6 k7 k8
          have lK := KN2.lt
          clear KN2
          cases hok : ok with
          | false =>
            have C2 := hide C1
            simp only [Bool.false_eq_true, if_false]
            go_wp2_with fail
            go_ret
            exact ⟨by rw [← HR.out]; simp [headMay, HOK.out, hok], C2.out.bel⟩
          | true =>
            simp only [if_true]
            go_wp2_with fail
            refine name_world fun W5 hW5 => ?_
            have C15 : Chg [] w2 W5 := by subst hW5; (repeat' (first | with_reducible exact Chg.refl _ _ | with_reducible refine Chg.alloc ?_ _ | with_reducible refine Chg.drew ?_ | with_reducible refine Chg.drewN ?_ _ | with_reducible refine Chg.set_ ?_ _ _ (by first | (simp; done) | (simp; omega) | omega)))
            clear hW5
            have KN1 := KN1.chg C15 (by simp)
            have KU1 := KU1.chg C15 (by simp)
            have C1 := C1.trans C15 (by simp)
            obtain ⟨W, hW⟩ : ∃ W, W5 = W := ⟨_, rfl⟩
            subst hW
            refine (cB.out W5 C1.bel KU1).mono ?_
            rintro e w3 ⟨rfl, hb1⟩
            cases hp1 : p1 with
            | false =>
              have C2 := hide (C1.below hb1)
              go_wp2_with fail
              go_ret
              exact ⟨by rw [← HR.out]; simp [headMay, hp1], C2.out.bel⟩
            | true =>
              have KN2 := KN1.chg (Chg.of_below (S := []) hb1) (by simp)
              have KU2 := KU1.chg (Chg.of_below (S := []) hb1) (by simp)
              have C2 := C1.below hb1
              have y0 := KN2.cell 0; have y1 := KN2.cell 1; have y2 := KN2.cell 2; have y3 := KN2.cell 3; have y4 := KN2.cell 4; have y5 := KN2.cell 5; have y6 := KN2.cell 6; have y7 := KN2.cell 7; have y8 := KN2.cell 8; simp at y0 y1 y2 y3 y4 y5 y6 y7 y8
              clear KN2 KN1 hb1
              go_wp2_with fail
              refine (cE.out w3 C2.bel KU2).mono ?_
              rintro e w4 ⟨rfl, hb4⟩
              have C4 := hide (C2.below hb4)
              go_wp2_with fail
              go_ret
              exact ⟨by rw [← HR.out]; simp [headMay, hp1, HOK.out, hok], C4.out.bel⟩
        · clear g1 g2 v1 v2
          go_enter Tryz.func52, Tryz.ntmps52
          go_wp2_with fail
          refine name_world fun W hW => ?_
          have C1 : Chg [] w W := by subst hW; (repeat' (first | with_reducible exact Chg.refl _ _ | with_reducible refine Chg.alloc ?_ _ | with_reducible refine Chg.drew ?_ | with_reducible refine Chg.drewN ?_ _ | with_reducible refine Chg.set_ ?_ _ _ (by first | (simp; done) | (simp; omega) | omega)))
          have KN1 : Blk W w.heap.size 61 #[.int .i64 5, .string S, .string N, .slice a1 np c1, .slice a2 nb c2, .slice a3 ne c3, .int .i64 pos, .int .i64 esc, .int .i64 unit] := by subst hW; (repeat' (first | with_reducible exact Blk.new_ (by first | rfl | (simp; done) | (simp; omega)) | with_reducible refine Blk.alloc_ ?_ | with_reducible refine Blk.drew ?_ | with_reducible refine Blk.drewN ?_ _ | with_reducible refine Blk.far_ ?_ (by first | (simp; done) | (simp; omega) | omega) | with_reducible apply Blk.set_eq | rfl))
          have KU1 : Blk W (w.heap.size + 1) 3 #[.int .i64 u] := by subst hW; (repeat' (first | with_reducible exact Blk.new_ (by first | rfl | (simp; done) | (simp; omega)) | with_reducible refine Blk.alloc_ ?_ | with_reducible refine Blk.drew ?_ | with_reducible refine Blk.drewN ?_ _ | with_reducible refine Blk.far_ ?_ (by first | (simp; done) | (simp; omega) | omega) | with_reducible apply Blk.set_eq | rfl))
          clear hW
          refine (cP.out W C1.bel).mono ?_
          rintro e w2 ⟨rfl, hb2⟩
          have C1 := C1.below hb2
          have KN1 := KN1.chg (Chg.of_below (S := []) hb2) (by simp)
          have KU1 := KU1.chg (Chg.of_below (S := []) hb2) (by simp)
          have KN2 := KN1
          clear hb2
          have k0 := KN2.cell 0; have k1 := KN2.cell 1; have k2 := KN2.cell 2; have k3 := KN2.cell 3; have k4 := KN2.cell 4; have k5 := KN2.cell 5; have k6 := KN2.cell 6; have k7 := KN2.cell 7; have k8 := KN2.cell 8; simp at k0 k1 k2 k3 k4 k5 k6 k7 k8
          have lK := KN2.lt
          clear KN2
          cases hok : ok with
          | false =>
            have C2 := hide C1
            simp only [Bool.false_eq_true, if_false]
            go_wp2_with fail
            go_ret
            exact ⟨by rw [← HR.out]; simp [headMay, HOK.out, hok], C2.out.bel⟩
          | true =>
            simp only [if_true]
            go_wp2_with fail
            refine name_world fun W5 hW5 => ?_
            have C15 : Chg [] w2 W5 := by subst hW5; (repeat' (first | with_reducible exact Chg.refl _ _ | with_reducible refine Chg.alloc ?_ _ | with_reducible refine Chg.drew ?_ | with_reducible refine Chg.drewN ?_ _ | with_reducible refine Chg.set_ ?_ _ _ (by first | (simp; done) | (simp; omega) | omega)))
            clear hW5
            have KN1 := KN1.chg C15 (by simp)
            have KU1 := KU1.chg C15 (by simp)
            have C1 := C1.trans C15 (by simp)
            obtain ⟨W, hW⟩ : ∃ W, W5 = W := ⟨_, rfl⟩
            subst hW
            refine (cB.out W5 C1.bel KU1).mono ?_
            rintro e w3 ⟨rfl, hb1⟩
            cases hp1 : p1 with
            | false =>
              have C2 := hide (C1.below hb1)
              go_wp2_with fail
              go_ret
              exact ⟨by rw [← HR.out]; simp [headMay, hp1], C2.out.bel⟩
            | true =>
              have KN2 := KN1.chg (Chg.of_below (S := []) hb1) (by simp)
              have KU2 := KU1.chg (Chg.of_below (S := []) hb1) (by simp)
              have C2 := C1.below hb1
              have y0 := KN2.cell 0; have y1 := KN2.cell 1; have y2 := KN2.cell 2; have y3 := KN2.cell 3; have y4 := KN2.cell 4; have y5 := KN2.cell 5; have y6 := KN2.cell 6; have y7 := KN2.cell 7; have y8 := KN2.cell 8; simp at y0 y1 y2 y3 y4 y5 y6 y7 y8
              clear KN2 KN1 hb1
              go_wp2_with fail
              refine (cE.out w3 C2.bel KU2).mono ?_
              rintro e w4 ⟨rfl, hb4⟩
              have C4 := hide (C2.below hb4)
              go_wp2_with fail
              go_ret
              exact ⟨by rw [← HR.out]; simp [headMay, hp1, HOK.out, hok], C4.out.bel⟩
        · clear g1 g2 v1 v2
          by_cases e1 : 0 ≤ unit
          · have x1 : decide (unit < (0 : Int)) = false := decide_eq_false (by omega)
            by_cases e2 : unit < u
            · have x2 : decide (u ≤ unit) = false := decide_eq_false (by omega)
              by_cases e3 : pipe = []
              · have x3 : np = 0 := by rw [← HNP.out, e3]; rfl
                subst x3
                go_enter Tryz.func52, Tryz.ntmps52
                go_wp2_with fail
                refine name_world fun W hW => ?_
                have C1 : Chg [] w W := by subst hW; (repeat' (first | with_reducible exact Chg.refl _ _ | with_reducible refine Chg.alloc ?_ _ | with_reducible refine Chg.drew ?_ | with_reducible refine Chg.drewN ?_ _ | with_reducible refine Chg.set_ ?_ _ _ (by first | (simp; done) | (simp; omega) | omega)))
                have KN1 : Blk W w.heap.size 61 #[.int .i64 6, .string S, .string N, .slice a1 0 c1, .slice a2 nb c2, .slice a3 ne c3, .int .i64 pos, .int .i64 esc, .int .i64 unit] := by subst hW; (repeat' (first | with_reducible exact Blk.new_ (by first | rfl | (simp; done) | (simp; omega)) | with_reducible refine Blk.alloc_ ?_ | with_reducible refine Blk.drew ?_ | with_reducible refine Blk.drewN ?_ _ | with_reducible refine Blk.far_ ?_ (by first | (simp; done) | (simp; omega) | omega) | with_reducible apply Blk.set_eq | rfl))
                have KU1 : Blk W (w.heap.size + 1) 3 #[.int .i64 u] := by subst hW; (repeat' (first | with_reducible exact Blk.new_ (by first | rfl | (simp; done) | (simp; omega)) | with_reducible refine Blk.alloc_ ?_ | with_reducible refine Blk.drew ?_ | with_reducible refine Blk.drewN ?_ _ | with_reducible refine Blk.far_ ?_ (by first | (simp; done) | (simp; omega) | omega) | with_reducible apply Blk.set_eq | rfl))
                clear hW
                refine (cB.out W C1.bel KU1).mono ?_
                rintro e w3 ⟨rfl, hb1⟩
                cases hp1 : p1 with
                | false =>
                  have C2 := hide (C1.below hb1)
                  go_wp2_with fail
                  go_ret
                  exact ⟨by rw [← HR.out]; simp [headMay, hp1], C2.out.bel⟩
                | true =>
                  have KN2 := KN1.chg (Chg.of_below (S := []) hb1) (by simp)
                  have KU2 := KU1.chg (Chg.of_below (S := []) hb1) (by simp)
                  have C2 := C1.below hb1
                  have y0 := KN2.cell 0; have y1 := KN2.cell 1; have y2 := KN2.cell 2; have y3 := KN2.cell 3; have y4 := KN2.cell 4; have y5 := KN2.cell 5; have y6 := KN2.cell 6; have y7 := KN2.cell 7; have y8 := KN2.cell 8; simp at y0 y1 y2 y3 y4 y5 y6 y7 y8
                  clear KN2 KN1 hb1
                  go_wp2_with fail
                  refine (cE.out w3 C2.bel KU2).mono ?_
                  rintro e w4 ⟨rfl, hb4⟩
                  have C4 := hide (C2.below hb4)
                  go_wp2_with fail
                  go_ret
                  exact ⟨by rw [← HR.out]; simp [headMay, hp1, e1, e2, e3], C4.out.bel⟩
              · have x3 : ((np : Int) == 0) = false := by rw [← HNP.out]; cases pipe with | nil => exact absurd rfl e3 | cons a b => simp; omega
                go_enter Tryz.func52, Tryz.ntmps52
                go_wp2_with fail
                refine name_world fun W hW => ?_
                have C1 : Chg [] w W := by subst hW; (repeat' (first | with_reducible exact Chg.refl _ _ | with_reducible refine Chg.alloc ?_ _ | with_reducible refine Chg.drew ?_ | with_reducible refine Chg.drewN ?_ _ | with_reducible refine Chg.set_ ?_ _ _ (by first | (simp; done) | (simp; omega) | omega)))
                have KN1 : Blk W w.heap.size 61 #[.int .i64 6, .string S, .string N, .slice a1 np c1, .slice a2 nb c2, .slice a3 ne c3, .int .i64 pos, .int .i64 esc, .int .i64 unit] := by subst hW; (repeat' (first | with_reducible exact Blk.new_ (by first | rfl | (simp; done) | (simp; omega)) | with_reducible refine Blk.alloc_ ?_ | with_reducible refine Blk.drew ?_ | with_reducible refine Blk.drewN ?_ _ | with_reducible refine Blk.far_ ?_ (by first | (simp; done) | (simp; omega) | omega) | with_reducible apply Blk.set_eq | rfl))
                have KU1 : Blk W (w.heap.size + 1) 3 #[.int .i64 u] := by subst hW; (repeat' (first | with_reducible exact Blk.new_ (by first | rfl | (simp; done) | (simp; omega)) | with_reducible refine Blk.alloc_ ?_ | with_reducible refine Blk.drew ?_ | with_reducible refine Blk.drewN ?_ _ | with_reducible refine Blk.far_ ?_ (by first | (simp; done) | (simp; omega) | omega) | with_reducible apply Blk.set_eq | rfl))
                clear hW
                refine (cP.out W C1.bel).mono ?_
                rintro e w2 ⟨rfl, hb2⟩
                have C1 := C1.below hb2
                have KN1 := KN1.chg (Chg.of_below (S := []) hb2) (by simp)
                have KU1 := KU1.chg (Chg.of_below (S := []) hb2) (by simp)
                have KN2 := KN1
                clear hb2
                have k0 := KN2.cell 0; have k1 := KN2.cell 1; have k2 := KN2.cell 2; have k3 := KN2.cell 3; have k4 := KN2.cell 4; have k5 := KN2.cell 5; have k6 := KN2.cell 6; have k7 := KN2.cell 7; have k8 := KN2.cell 8; simp at k0 k1 k2 k3 k4 k5 k6 k7 k8
                have lK := KN2.lt
                clear KN2
                cases hok : ok with
                | false =>
                  have C2 := hide C1
                  simp only [Bool.false_eq_true, if_false]
                  go_wp2_with fail
                  go_ret
                  exact ⟨by rw [← HR.out]; simp [headMay, HOK.out, hok, e1, e2, e3], C2.out.bel⟩
                | true =>
                  simp only [if_true]
                  go_wp2_with fail
                  refine name_world fun W5 hW5 => ?_
                  have C15 : Chg [] w2 W5 := by subst hW5; (repeat' (first | with_reducible exact Chg.refl _ _ | with_reducible refine Chg.alloc ?_ _ | with_reducible refine Chg.drew ?_ | with_reducible refine Chg.drewN ?_ _ | with_reducible refine Chg.set_ ?_ _ _ (by first | (simp; done) | (simp; omega) | omega)))
                  clear hW5
                  have KN1 := KN1.chg C15 (by simp)
                  have KU1 := KU1.chg C15 (by simp)
                  have C1 := C1.trans C15 (by simp)
                  obtain ⟨W, hW⟩ : ∃ W, W5 = W := ⟨_, rfl⟩
                  subst hW
                  refine (cB.out W5 C1.bel KU1).mono ?_
                  rintro e w3 ⟨rfl, hb1⟩
                  cases hp1 : p1 with
                  | false =>
                    have C2 := hide (C1.below hb1)
                    go_wp2_with fail
                    go_ret
                    exact ⟨by rw [← HR.out]; simp [headMay, hp1], C2.out.bel⟩
                  | true =>
                    have KN2 := KN1.chg (Chg.of_below (S := []) hb1) (by simp)
                    have KU2 := KU1.chg (Chg.of_below (S := []) hb1) (by simp)
                    have C2 := C1.below hb1
                    have y0 := KN2.cell 0; have y1 := KN2.cell 1; have y2 := KN2.cell 2; have y3 := KN2.cell 3; have y4 := KN2.cell 4; have y5 := KN2.cell 5; have y6 := KN2.cell 6; have y7 := KN2.cell 7; have y8 := KN2.cell 8; simp at y0 y1 y2 y3 y4 y5 y6 y7 y8
                    clear KN2 KN1 hb1
                    go_wp2_with fail
                    refine (cE.out w3 C2.bel KU2).mono ?_
                    rintro e w4 ⟨rfl, hb4⟩
                    have C4 := hide (C2.below hb4)
                    go_wp2_with fail
                    go_ret
                    exact ⟨by rw [← HR.out]; simp [headMay, hp1, HOK.out, hok, e1, e2, e3], C4.out.bel⟩
            · have x2 : decide (u ≤ unit) = true := decide_eq_true (by omega)
              go_enter Tryz.func52, Tryz.ntmps52
              go_wp2_with fail
              go_ret
              refine ⟨by rw [← HR.out]; simp [headMay, e1, e2] <;> (intros; omega), ?_⟩
              refine name_it (C := fun W => Below w.heap.size w W) fun W hW => ?_
              have C1 : Chg [] w W := by subst hW; (repeat' (first | with_reducible exact Chg.refl _ _ | with_reducible refine Chg.alloc ?_ _ | with_reducible refine Chg.drew ?_ | with_reducible refine Chg.drewN ?_ _ | with_reducible refine Chg.set_ ?_ _ _ (by first | (simp; done) | (simp; omega) | omega)))
              exact C1.bel
          · have x1 : decide (unit < (0 : Int)) = true := decide_eq_true (by omega)
            go_enter Tryz.func52, Tryz.ntmps52
            go_wp2_with fail
            go_ret
            refine ⟨by rw [← HR.out]; simp [headMay, e1] <;> (intros; omega), ?_⟩
            refine name_it (C := fun W => Below w.heap.size w W) fun W hW => ?_
            have C1 : Chg [] w W := by subst hW; (repeat' (first | with_reducible exact Chg.refl _ _ | with_reducible refine Chg.alloc ?_ _ | with_reducible refine Chg.drew ?_ | with_reducible refine Chg.drewN ?_ _ | with_reducible refine Chg.set_ ?_ _ _ (by first | (simp; done) | (simp; omega) | omega)))
            exact C1.bel
        · clear g1 g2 v1 v2
          go_enter Tryz.func52, Tryz.ntmps52
          go_wp2_with fail
          refine name_world fun W hW => ?_
          have C1 : Chg [] w W := by subst hW; (repeat' (first | with_reducible exact Chg.refl _ _ | with_reducible refine Chg.alloc ?_ _ | with_reducible refine Chg.drew ?_ | with_reducible refine Chg.drewN ?_ _ | with_reducible refine Chg.set_ ?_ _ _ (by first | (simp; done) | (simp; omega) | omega)))
          have KN1 : Blk W w.heap.size 61 #[.int .i64 7, .string S, .string N, .slice a1 np c1, .slice a2 nb c2, .slice a3 ne c3, .int .i64 pos, .int .i64 esc, .int .i64 unit] := by subst hW; (repeat' (first | with_reducible exact Blk.new_ (by first | rfl | (simp; done) | (simp; omega)) | with_reducible refine Blk.alloc_ ?_ | with_reducible refine Blk.drew ?_ | with_reducible refine Blk.drewN ?_ _ | with_reducible refine Blk.far_ ?_ (by first | (simp; done) | (simp; omega) | omega) | with_reducible apply Blk.set_eq | rfl))
          have KU1 : Blk W (w.heap.size + 1) 3 #[.int .i64 u] := by subst hW; (repeat' (first | with_reducible exact Blk.new_ (by first | rfl | (simp; done) | (simp; omega)) | with_reducible refine Blk.alloc_ ?_ | with_reducible refine Blk.drew ?_ | with_reducible refine Blk.drewN ?_ _ | with_reducible refine Blk.far_ ?_ (by first | (simp; done) | (simp; omega) | omega) | with_reducible apply Blk.set_eq | rfl))
          clear hW
          refine (cP.out W C1.bel).mono ?_
          rintro e w2 ⟨rfl, hb2⟩
          have C1 := C1.below hb2
          have KN1 := KN1.chg (Chg.of_below (S := []) hb2) (by simp)
          have KU1 := KU1.chg (Chg.of_below (S := []) hb2) (by simp)
          have KN2 := KN1
          clear hb2
          have k0 := KN2.cell 0; have k1 := KN2.cell 1; have k2 := KN2.cell 2; have k3 := KN2.cell 3; have k4 := KN2.cell 4; have k5 := KN2.cell 5; have k6 := KN2.cell 6; have k7 := KN2.cell 7; have k8 := KN2.cell 8; simp at k0 k1 k2 k3 k4 k5 k6 k7 k8
          have lK := KN2.lt
          clear KN2
          cases hok : ok with
          | false =>
            have C2 := hide C1
            simp only [Bool.false_eq_true, if_false]
            go_wp2_with fail
            go_ret
            exact ⟨by rw [← HR.out]; simp [headMay, HOK.out, hok], C2.out.bel⟩
          | true =>
            simp only [if_true]
            go_wp2_with fail
            refine name_world fun W5 hW5 => ?_
            have C15 : Chg [] w2 W5 := by subst hW5; (repeat' (first | with_reducible exact Chg.refl _ _ | with_reducible refine Chg.alloc ?_ _ | with_reducible refine Chg.drew ?_ | with_reducible refine Chg.drewN ?_ _ | with_reducible refine Chg.set_ ?_ _ _ (by first | (simp; done) | (simp; omega) | omega)))
            clear hW5
            have KN1 := KN1.chg C15 (by simp)
            have KU1 := KU1.chg C15 (by simp)
            have C1 := C1.trans C15 (by simp)
            obtain ⟨W, hW⟩ : ∃ W, W5 = W := ⟨_, rfl⟩
            subst hW
            refine (cB.out W5 C1.bel KU1).mono ?_
            rintro e w3 ⟨rfl, hb1⟩
            cases hp1 : p1 with
            | false =>
              have C2 := hide (C1.below hb1)
              go_wp2_with fail
              go_ret
              exact ⟨by rw [← HR.out]; simp [headMay, hp1], C2.out.bel⟩
            | true =>
              have KN2 := KN1.chg (Chg.of_below (S := []) hb1) (by simp)
              have KU2 := KU1.chg (Chg.of_below (S := []) hb1) (by simp)
              have C2 := C1.below hb1
              have y0 := KN2.cell 0; have y1 := KN2.cell 1; have y2 := KN2.cell 2; have y3 := KN2.cell 3; have y4 := KN2.cell 4; have y5 := KN2.cell 5; have y6 := KN2.cell 6; have y7 := KN2.cell 7; have y8 := KN2.cell 8; simp at y0 y1 y2 y3 y4 y5 y6 y7 y8
              clear KN2 KN1 hb1
              go_wp2_with fail
              refine (cE.out w3 C2.bel KU2).mono ?_
              rintro e w4 ⟨rfl, hb4⟩
              have C4 := hide (C2.below hb4)
              go_wp2_with fail
              go_ret
              exact ⟨by rw [← HR.out]; simp [headMay, hp1, HOK.out, hok], C4.out.bel⟩
      · have v2 : decide ((7 : Int) < k) = true := decide_eq_true (by omega)
        go_enter Tryz.func52, Tryz.ntmps52
        go_wp2_with fail
        go_ret
        refine ⟨by rw [← HR.out]; simp [headMay, g2] <;> (intros; omega), ?_⟩
        refine name_it (C := fun W => Below w.heap.size w W) fun W hW => ?_
        have C1 : Chg [] w W := by subst hW; (repeat' (first | with_reducible exact Chg.refl _ _ | with_reducible refine Chg.alloc ?_ _ | with_reducible refine Chg.drew ?_ | with_reducible refine Chg.drewN ?_ _ | with_reducible refine Chg.set_ ?_ _ _ (by first | (simp; done) | (simp; omega) | omega)))
        exact C1.bel
    · have v1 : decide (k < (1 : Int)) = true := decide_eq_true (by omega)
      go_enter Tryz.func52, Tryz.ntmps52
      go_wp2_with fail
      go_ret
      refine ⟨by rw [← HR.out]; simp [headMay, g1] <;> (intros; omega), ?_⟩
      refine name_it (C := fun W => Below w.heap.size w W) fun W hW => ?_
      have C1 : Chg [] w W := by subst hW; (repeat' (first | with_reducible exact Chg.refl _ _ | with_reducible refine Chg.alloc ?_ _ | with_reducible refine Chg.drew ?_ | with_reducible refine Chg.drewN ?_ _ | with_reducible refine Chg.set_ ?_ _ _ (by first | (simp; done) | (simp; omega) | omega)))
      exact C1.bel
end Go.Proofs.YtnepogddjinpoaaGreatDoor
