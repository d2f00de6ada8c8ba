/-
  PLAIN LAWS of many texts, in one.
-/
import Derived.Test.YtnepogddjinpoaaGreatDoorC1
import Derived.Test.YtnepogddjinpoaaGreatDoorP3
import Derived.Test.YtnepogddjinpoaaGreatDoorFuncB
import Derived.Test.YtnepogddjinpoaaGreatDoorAll
import Derived.Test.YtnepogddjinpoaaGreatDoorC2
import Derived.Test.YtnepogddjinpoaaGreatDoorClone
import Derived.Test.YtnepogddjinpoaaGreatDoorC6
namespace Go.Proofs.YtnepogddjinpoaaGreatDoor
open Go.RowKit
set_option linter.unusedVariables false
set_option linter.unusedSimpArgs false

theorem ogText (s : ByteArray) (w : World) : Calls Tryz.prog 155 #[.string s] w fun e w' => e = .returned (vFlat 4 0 s) ∧ Below w.heap.size w w' := by
  go_enter Tryz.func155, Tryz.ntmps155
  go_wp2_with fail
  refine name_postO fun W hW => ?_
  have C1 : Chg [] w W := by subst hW; (repeat' (first | with_reducible exact Chg.refl _ _ | with_reducible refine Chg.alloc ?_ _ | with_reducible refine Chg.drew ?_ | with_reducible refine Chg.drewN ?_ _ | with_reducible refine Chg.set_ ?_ _ _ (by first | (simp; done) | (simp; omega) | omega)))
  have K : Blk W w.heap.size 26 (vCells 4 0 s none 0 0 none 0 0) := by subst hW; (repeat' (first | with_reducible exact Blk.new_ (by first | rfl | (simp; done) | (simp; omega)) | with_reducible refine Blk.alloc_ ?_ | with_reducible refine Blk.drew ?_ | with_reducible refine Blk.drewN ?_ _ | with_reducible refine Blk.far_ ?_ (by first | (simp; done) | (simp; omega) | omega) | with_reducible apply Blk.set_eq | rfl))
  have k0 := K.cell 0; have k1 := K.cell 1; have k2 := K.cell 2; have k3 := K.cell 3; have k4 := K.cell 4; simp at k0 k1 k2 k3 k4
  clear hW K
  simp [bodyPost, results, Tryz.results155, go_sem, k0, k1, k2, k3, k4]
  exact C1.bel
theorem ogInt (i : Int) (w : World) : Calls Tryz.prog 154 #[.int .i64 i] w fun e w' => e = .returned (vFlat 3 i ⟨#[]⟩) ∧ Below w.heap.size w w' := by
  go_enter Tryz.func154, Tryz.ntmps154
  go_wp2_with fail
  refine name_postO fun W hW => ?_
  have C1 : Chg [] w W := by subst hW; (repeat' (first | with_reducible exact Chg.refl _ _ | with_reducible refine Chg.alloc ?_ _ | with_reducible refine Chg.drew ?_ | with_reducible refine Chg.drewN ?_ _ | with_reducible refine Chg.set_ ?_ _ _ (by first | (simp; done) | (simp; omega) | omega)))
  have K : Blk W w.heap.size 26 (vCells 3 i ⟨#[]⟩ none 0 0 none 0 0) := by subst hW; (repeat' (first | with_reducible exact Blk.new_ (by first | rfl | (simp; done) | (simp; omega)) | with_reducible refine Blk.alloc_ ?_ | with_reducible refine Blk.drew ?_ | with_reducible refine Blk.drewN ?_ _ | with_reducible refine Blk.far_ ?_ (by first | (simp; done) | (simp; omega) | omega) | with_reducible apply Blk.set_eq | rfl))
  have k0 := K.cell 0; have k1 := K.cell 1; have k2 := K.cell 2; have k3 := K.cell 3; have k4 := K.cell 4; simp at k0 k1 k2 k3 k4
  clear hW K
  simp [bodyPost, results, Tryz.results154, go_sem, k0, k1, k2, k3, k4]
  exact C1.bel
theorem ogTruth (b : Bool) (w : World) : Calls Tryz.prog 199 #[.bool b] w fun e w' => e = .returned (vFlat (if b then 2 else 1) 0 ⟨#[]⟩) ∧ Below w.heap.size w w' := by
  cases b with
  | true =>
    go_enter Tryz.func199, Tryz.ntmps199
    go_wp2_with fail
    refine name_postO fun W hW => ?_
    have C1 : Chg [] w W := by subst hW; (repeat' (first | with_reducible exact Chg.refl _ _ | with_reducible refine Chg.alloc ?_ _ | with_reducible refine Chg.drew ?_ | with_reducible refine Chg.drewN ?_ _ | with_reducible refine Chg.set_ ?_ _ _ (by first | (simp; done) | (simp; omega) | omega)))
    have K : Blk W w.heap.size 26 (vCells 2 0 ⟨#[]⟩ none 0 0 none 0 0) := by subst hW; (repeat' (first | with_reducible exact Blk.new_ (by first | rfl | (simp; done) | (simp; omega)) | with_reducible refine Blk.alloc_ ?_ | with_reducible refine Blk.drew ?_ | with_reducible refine Blk.drewN ?_ _ | with_reducible refine Blk.far_ ?_ (by first | (simp; done) | (simp; omega) | omega) | with_reducible apply Blk.set_eq | rfl))
    have k0 := K.cell 0; have k1 := K.cell 1; have k2 := K.cell 2; have k3 := K.cell 3; have k4 := K.cell 4; simp at k0 k1 k2 k3 k4
    clear hW K
    simp [bodyPost, results, Tryz.results199, go_sem, k0, k1, k2, k3, k4]
    exact C1.bel
  | false =>
    go_enter Tryz.func199, Tryz.ntmps199
    go_wp2_with fail
    refine name_postO fun W hW => ?_
    have C1 : Chg [] w W := by subst hW; (repeat' (first | with_reducible exact Chg.refl _ _ | with_reducible refine Chg.alloc ?_ _ | with_reducible refine Chg.drew ?_ | with_reducible refine Chg.drewN ?_ _ | with_reducible refine Chg.set_ ?_ _ _ (by first | (simp; done) | (simp; omega) | omega)))
    have K : Blk W w.heap.size 26 (vCells 1 0 ⟨#[]⟩ none 0 0 none 0 0) := by subst hW; (repeat' (first | with_reducible exact Blk.new_ (by first | rfl | (simp; done) | (simp; omega)) | with_reducible refine Blk.alloc_ ?_ | with_reducible refine Blk.drew ?_ | with_reducible refine Blk.drewN ?_ _ | with_reducible refine Blk.far_ ?_ (by first | (simp; done) | (simp; omega) | omega) | with_reducible apply Blk.set_eq | rfl))
    have k0 := K.cell 0; have k1 := K.cell 1; have k2 := K.cell 2; have k3 := K.cell 3; have k4 := K.cell 4; simp at k0 k1 k2 k3 k4
    clear hW K
    simp [bodyPost, results, Tryz.results199, go_sem, k0, k1, k2, k3, k4]
    exact C1.bel
set_option maxHeartbeats 1000000 in
set_option maxRecDepth 100000 in
theorem ogValTruth (k i : Int) (s : ByteArray) (a : Option Addr) (n c : Nat) (a2 : Option Addr) (n2 c2 : Nat) (w : World) : Calls Tryz.prog 90 #[.agg (vCells k i s a n c a2 n2 c2)] w fun e w' => e = .returned (.bool (truthC k i s n)) ∧ Below w.heap.size w w' := by
  obtain ⟨R, hR⟩ : ∃ R, truthC k i s n = R := ⟨_, rfl⟩
  rw [hR]
  have HR := hide hR
  clear hR
  go_enter Tryz.func90, Tryz.ntmps90
  by_cases h0 : k = 0
  · subst h0
    go_wp2_with fail
    go_ret
    refine ⟨?_, ?_⟩
    · rw [← HR.out]; simp [truthC]
    · refine name_it (C := fun W => Below w.heap.size w W) fun W hW => ?_
      have C1 : Chg [] w W := by subst hW; (repeat' (first | with_reducible exact Chg.refl _ _ | with_reducible refine Chg.alloc ?_ _ | with_reducible refine Chg.drew ?_ | with_reducible refine Chg.drewN ?_ _ | with_reducible refine Chg.set_ ?_ _ _ (by first | (simp; done) | (simp; omega) | omega)))
      exact C1.bel
  · have e0 : (k == 0) = false := by simpa using h0
    by_cases h1 : k = 1
    · subst h1
      go_wp2_with fail
      go_ret
      refine ⟨?_, ?_⟩
      · rw [← HR.out]; simp [truthC]
      · refine name_it (C := fun W => Below w.heap.size w W) fun W hW => ?_
        have C1 : Chg [] w W := by subst hW; (repeat' (first | with_reducible exact Chg.refl _ _ | with_reducible refine Chg.alloc ?_ _ | with_reducible refine Chg.drew ?_ | with_reducible refine Chg.drewN ?_ _ | with_reducible refine Chg.set_ ?_ _ _ (by first | (simp; done) | (simp; omega) | omega)))
        exact C1.bel
    · have e1 : (k == 1) = false := by simpa using h1
      by_cases h2 : k = 2
      · subst h2
        go_wp2_with fail
        go_ret
        refine ⟨?_, ?_⟩
        · rw [← HR.out]; simp [truthC]
        · refine name_it (C := fun W => Below w.heap.size w W) fun W hW => ?_
          have C1 : Chg [] w W := by subst hW; (repeat' (first | with_reducible exact Chg.refl _ _ | with_reducible refine Chg.alloc ?_ _ | with_reducible refine Chg.drew ?_ | with_reducible refine Chg.drewN ?_ _ | with_reducible refine Chg.set_ ?_ _ _ (by first | (simp; done) | (simp; omega) | omega)))
          exact C1.bel
      · have e2 : (k == 2) = false := by simpa using h2
        by_cases h3 : k = 3
        · subst h3
          go_wp2_with fail
          go_ret
          refine ⟨?_, ?_⟩
          · rw [← HR.out]; simp [truthC]
          · refine name_it (C := fun W => Below w.heap.size w W) fun W hW => ?_
            have C1 : Chg [] w W := by subst hW; (repeat' (first | with_reducible exact Chg.refl _ _ | with_reducible refine Chg.alloc ?_ _ | with_reducible refine Chg.drew ?_ | with_reducible refine Chg.drewN ?_ _ | with_reducible refine Chg.set_ ?_ _ _ (by first | (simp; done) | (simp; omega) | omega)))
            exact C1.bel
        · have e3 : (k == 3) = false := by simpa using h3
          by_cases h5 : k = 5
          · subst h5
            go_wp2_with fail
            go_ret
            refine ⟨?_, ?_⟩
            · rw [← HR.out]; simp [truthC]
            · refine name_it (C := fun W => Below w.heap.size w W) fun W hW => ?_
              have C1 : Chg [] w W := by subst hW; (repeat' (first | with_reducible exact Chg.refl _ _ | with_reducible refine Chg.alloc ?_ _ | with_reducible refine Chg.drew ?_ | with_reducible refine Chg.drewN ?_ _ | with_reducible refine Chg.set_ ?_ _ _ (by first | (simp; done) | (simp; omega) | omega)))
              exact C1.bel
          · have e5 : (k == 5) = false := by simpa using h5
            by_cases h6 : k = 6
            · subst h6
              go_wp2_with fail
              go_ret
              refine ⟨?_, ?_⟩
              · rw [← HR.out]; simp [truthC]
              · refine name_it (C := fun W => Below w.heap.size w W) fun W hW => ?_
                have C1 : Chg [] w W := by subst hW; (repeat' (first | with_reducible exact Chg.refl _ _ | with_reducible refine Chg.alloc ?_ _ | with_reducible refine Chg.drew ?_ | with_reducible refine Chg.drewN ?_ _ | with_reducible refine Chg.set_ ?_ _ _ (by first | (simp; done) | (simp; omega) | omega)))
                exact C1.bel
            · have e6 : (k == 6) = false := by simpa using h6
              go_wp2_with fail
              go_ret
              refine ⟨?_, ?_⟩
              · rw [← HR.out]; simp [truthC, h0, h1, h2, h3, h5, h6]
              · refine name_it (C := fun W => Below w.heap.size w W) fun W hW => ?_
                have C1 : Chg [] w W := by subst hW; (repeat' (first | with_reducible exact Chg.refl _ _ | with_reducible refine Chg.alloc ?_ _ | with_reducible refine Chg.drew ?_ | with_reducible refine Chg.drewN ?_ _ | with_reducible refine Chg.set_ ?_ _ _ (by first | (simp; done) | (simp; omega) | omega)))
                exact C1.bel
set_option maxHeartbeats 1000000 in
set_option maxRecDepth 100000 in
theorem ogLen (k i : Int) (s : ByteArray) (a : Option Addr) (n c : Nat) (a2 : Option Addr) (n2 c2 : Nat) (w : World) : Calls Tryz.prog 198 #[.agg (vCells k i s a n c a2 n2 c2)] w fun e w' => e = .returned (.tuple #[.int .i64 (lenC k s n).1, .int .i64 (lenC k s n).2]) ∧ Below w.heap.size w w' := by
  obtain ⟨R, hR⟩ : ∃ R, lenC k s n = R := ⟨_, rfl⟩
  rw [hR]
  have HR := hide hR
  clear hR
  go_enter Tryz.func198, Tryz.ntmps198
  by_cases h5 : k = 5
  · subst h5
    go_wp2_with fail
    go_ret2
    refine ⟨?_, ?_⟩
    · rw [← HR.out]; simp [lenC]
    · refine name_it (C := fun W => Below w.heap.size w W) fun W hW => ?_
      have C1 : Chg [] w W := by subst hW; (repeat' (first | with_reducible exact Chg.refl _ _ | with_reducible refine Chg.alloc ?_ _ | with_reducible refine Chg.drew ?_ | with_reducible refine Chg.drewN ?_ _ | with_reducible refine Chg.set_ ?_ _ _ (by first | (simp; done) | (simp; omega) | omega)))
      exact C1.bel
  · have e5 : (k == 5) = false := by simpa using h5
    by_cases h6 : k = 6
    · subst h6
      go_wp2_with fail
      go_ret2
      refine ⟨?_, ?_⟩
      · rw [← HR.out]; simp [lenC]
      · refine name_it (C := fun W => Below w.heap.size w W) fun W hW => ?_
        have C1 : Chg [] w W := by subst hW; (repeat' (first | with_reducible exact Chg.refl _ _ | with_reducible refine Chg.alloc ?_ _ | with_reducible refine Chg.drew ?_ | with_reducible refine Chg.drewN ?_ _ | with_reducible refine Chg.set_ ?_ _ _ (by first | (simp; done) | (simp; omega) | omega)))
        exact C1.bel
    · have e6 : (k == 6) = false := by simpa using h6
      by_cases h4 : k = 4
      · subst h4
        go_wp2_with fail
        go_ret2
        refine ⟨?_, ?_⟩
        · rw [← HR.out]; simp [lenC]
        · refine name_it (C := fun W => Below w.heap.size w W) fun W hW => ?_
          have C1 : Chg [] w W := by subst hW; (repeat' (first | with_reducible exact Chg.refl _ _ | with_reducible refine Chg.alloc ?_ _ | with_reducible refine Chg.drew ?_ | with_reducible refine Chg.drewN ?_ _ | with_reducible refine Chg.set_ ?_ _ _ (by first | (simp; done) | (simp; omega) | omega)))
          exact C1.bel
      · have e4 : (k == 4) = false := by simpa using h4
        by_cases h7 : 7 ≤ k
        · have e7 : decide ((7 : Int) ≤ k) = true := by simpa using h7
          go_wp2_with fail
          go_ret2
          refine ⟨?_, ?_⟩
          · rw [← HR.out]; simp [lenC, h5, h6, h4, h7]
          · refine name_it (C := fun W => Below w.heap.size w W) fun W hW => ?_
            have C1 : Chg [] w W := by subst hW; (repeat' (first | with_reducible exact Chg.refl _ _ | with_reducible refine Chg.alloc ?_ _ | with_reducible refine Chg.drew ?_ | with_reducible refine Chg.drewN ?_ _ | with_reducible refine Chg.set_ ?_ _ _ (by first | (simp; done) | (simp; omega) | omega)))
            exact C1.bel
        · have e7 : decide ((7 : Int) ≤ k) = false := by simpa using h7
          go_wp2_with fail
          go_ret2
          refine ⟨?_, ?_⟩
          · rw [← HR.out]; simp [lenC, h5, h6, h4, (show ¬ (7 : Int) ≤ k by omega)]
          · refine name_it (C := fun W => Below w.heap.size w W) fun W hW => ?_
            have C1 : Chg [] w W := by subst hW; (repeat' (first | with_reducible exact Chg.refl _ _ | with_reducible refine Chg.alloc ?_ _ | with_reducible refine Chg.drew ?_ | with_reducible refine Chg.drewN ?_ _ | with_reducible refine Chg.set_ ?_ _ _ (by first | (simp; done) | (simp; omega) | omega)))
            exact C1.bel
set_option maxHeartbeats 1000000 in
set_option maxRecDepth 100000 in
theorem ogMade (s : ByteArray) (w : World) : Calls Tryz.prog 158 #[.string s] w fun e w' => e = .returned (.tuple #[madeV s, .int .i64 (madeE s)]) ∧ Below w.heap.size w w' := by
  by_cases hs : 4096 < s.size
  · have h1 : madeV s = vFlat 0 0 ⟨#[]⟩ := if_pos hs
    have h2 : madeE s = 5 := if_pos hs
    rw [h1, h2]
    have e1 : decide ((4096 : Int) < (s.size : Int)) = true := by simp; omega
    clear h1 h2
    go_enter Tryz.func158, Tryz.ntmps158
    go_wp2_with fail
    refine name_postO fun W hW => ?_
    have C1 : Chg [] w W := by subst hW; (repeat' (first | with_reducible exact Chg.refl _ _ | with_reducible refine Chg.alloc ?_ _ | with_reducible refine Chg.drew ?_ | with_reducible refine Chg.drewN ?_ _ | with_reducible refine Chg.set_ ?_ _ _ (by first | (simp; done) | (simp; omega) | omega)))
    have K : Blk W w.heap.size 26 (vCells 0 0 ⟨#[]⟩ none 0 0 none 0 0) := by subst hW; (repeat' (first | with_reducible exact Blk.new_ (by first | rfl | (simp; done) | (simp; omega)) | with_reducible refine Blk.alloc_ ?_ | with_reducible refine Blk.drew ?_ | with_reducible refine Blk.drewN ?_ _ | with_reducible refine Blk.far_ ?_ (by first | (simp; done) | (simp; omega) | omega) | with_reducible apply Blk.set_eq | rfl))
    have k0 := K.cell 0; have k1 := K.cell 1; have k2 := K.cell 2; have k3 := K.cell 3; have k4 := K.cell 4; simp at k0 k1 k2 k3 k4
    clear hW K
    simp [bodyPost, results, Tryz.results158, go_sem, k0, k1, k2, k3, k4]
    exact C1.bel
  · have h1 : madeV s = vFlat 4 0 s := if_neg hs
    have h2 : madeE s = 0 := if_neg hs
    rw [h1, h2]
    have e1 : decide ((4096 : Int) < (s.size : Int)) = false := by simp; omega
    clear h1 h2
    go_enter Tryz.func158, Tryz.ntmps158
    go_wp2_with fail
    refine name_world fun W hW => ?_
    have C1 : Chg [] w W := by subst hW; (repeat' (first | with_reducible exact Chg.refl _ _ | with_reducible refine Chg.alloc ?_ _ | with_reducible refine Chg.drew ?_ | with_reducible refine Chg.drewN ?_ _ | with_reducible refine Chg.set_ ?_ _ _ (by first | (simp; done) | (simp; omega) | omega)))
    have K : Blk W w.heap.size 26 (vCells 0 0 ⟨#[]⟩ none 0 0 none 0 0) := by subst hW; (repeat' (first | with_reducible exact Blk.new_ (by first | rfl | (simp; done) | (simp; omega)) | with_reducible refine Blk.alloc_ ?_ | with_reducible refine Blk.drew ?_ | with_reducible refine Blk.drewN ?_ _ | with_reducible refine Blk.far_ ?_ (by first | (simp; done) | (simp; omega) | omega) | with_reducible apply Blk.set_eq | rfl))
    clear hW
    refine (ogText s W).mono ?_
    rintro e w1 ⟨rfl, hb1⟩
    have C2 := hide (C1.trans (Chg.of_below (S := []) hb1) (by simp))
    have K1 := K.chg (Chg.of_below (S := []) hb1) (by simp)
    have HK1 := hide K1
    have k0 := K1.cell 0; have k1 := K1.cell 1; have k2 := K1.cell 2; have k3 := K1.cell 3; have k4 := K1.cell 4; simp at k0 k1 k2 k3 k4
    have z0 := K1.frozen 0; have z1 := K1.frozen 1; have z2 := K1.frozen 2; have z3 := K1.frozen 3; have z4 := K1.frozen 4
    have l1 := K1.lt
    clear K K1 hb1 C1
    go_wp2_with fail
    refine name_postO fun W hW => ?_
    have C3 : Chg [w.heap.size] w1 W := by subst hW; (repeat' (first | with_reducible exact Chg.refl _ _ | with_reducible refine Chg.alloc ?_ _ | with_reducible refine Chg.drew ?_ | with_reducible refine Chg.drewN ?_ _ | with_reducible refine Chg.set_ ?_ _ _ (by first | (simp; done) | (simp; omega) | omega)))
    have K2 : Blk W w.heap.size 26 (vCells 4 0 s none 0 0 none 0 0) := by subst hW; (repeat' (first | with_reducible exact HK1.out | with_reducible exact Blk.new_ (by first | rfl | (simp; done) | (simp; omega)) | with_reducible refine Blk.alloc_ ?_ | with_reducible refine Blk.drew ?_ | with_reducible refine Blk.drewN ?_ _ | with_reducible refine Blk.far_ ?_ (by first | (simp; done) | (simp; omega) | omega) | with_reducible apply Blk.set_eq | rfl))
    clear k0 k1 k2 k3 k4 z0 z1 z2 z3 z4
    have k0 := K2.cell 0; have k1 := K2.cell 1; have k2 := K2.cell 2; have k3 := K2.cell 3; have k4 := K2.cell 4; simp at k0 k1 k2 k3 k4
    clear hW K2
    simp [bodyPost, results, Tryz.results158, go_sem, k0, k1, k2, k3, k4]
    exact ((C2.out.mono (S' := [w.heap.size]) (by simp)).trans C3 (by simp) |>.mono (S' := []) (by intro x hx; simp at hx; subst hx; exact .inr (Nat.le_refl _))).bel
end Go.Proofs.YtnepogddjinpoaaGreatDoor

namespace Go.Proofs.YtnepogddjinpoaaGreatDoor
open Go.RowKit
set_option linter.unusedVariables false
set_option linter.unusedSimpArgs false

theorem info_valF : (Tryz.prog.info? 26).map (fun i => (i.zero, i.size, i.bytes)) = some (some (.agg #[.int .i64 0, .int .i64 0, .string ⟨#[]⟩, .slice none 0 0, .slice none 0 0]), 5, 80) := by kernel_rfl
theorem own_sliceO {w : World} {base : Nat} {t : TypeId} {s n : Nat} {v : Value} {xs : List Value} (h : w.ownsRow base t s v n xs) : ∃ A c, v = .slice A n c := by
  rcases h.2 with ⟨rfl, rfl⟩ | ⟨g, cap, cur, rfl, _⟩
  · exact ⟨none, 0, rfl⟩
  · exact ⟨_, _, rfl⟩
/-- A flat value is told, and an error's number. -/
def ToldF (w : World) (k i : Int) (s : ByteArray) (f : Int) (e : Ending) (w' : World) : Prop := ∃ a c a2 c2, e = .returned (.tuple #[.agg (vCells k i s a 0 c a2 0 c2), .int .i64 f]) ∧ Below w.heap.size w w'
set_option maxHeartbeats 2000000 in
set_option maxRecDepth 100000 in
theorem ogLessNum (i : Int) (s : ByteArray) (a : Option Addr) (c : Nat) (a2 : Option Addr) (c2 : Nat) (I : Int) (S : ByteArray) (A1 : Option Addr) (Cp : Nat) (A3 : Option Addr) (Cq : Nat) (w : World) :
    Calls Tryz.prog 204 #[.agg (vCells 3 i s a 0 c a2 0 c2), .agg (vCells 3 I S A1 0 Cp A3 0 Cq)] w (ToldF w (if decide (i < I) then 2 else 1) (0) ⟨#[]⟩ (0)) := by
  have cR := hide (fun W => ogTruth (decide (i < I)) W)
  obtain ⟨kk, hkk⟩ : ∃ kk : Int, (if decide (i < I) then (2 : Int) else 1) = kk := ⟨_, rfl⟩
  rw [hkk]
  rw [hkk] at cR
  clear hkk
  go_enter Tryz.func204, Tryz.ntmps204
  go_wp2_with fail
  refine name_world fun W hW => ?_
  have C1 : Chg [] w W := by subst hW; (repeat' (first | with_reducible exact Chg.refl _ _ | with_reducible refine Chg.alloc ?_ _ | with_reducible refine Chg.drew ?_ | with_reducible refine Chg.drewN ?_ _ | with_reducible refine Chg.set_ ?_ _ _ (by first | (simp; done) | (simp; omega) | omega)))
  have KA : Blk W (w.heap.size) 26 (vCells 3 i s a 0 c a2 0 c2) := by subst hW; (repeat' (first | with_reducible exact Blk.new_ (by first | rfl | (simp; done) | (simp; omega)) | with_reducible refine Blk.alloc_ ?_ | with_reducible refine Blk.drew ?_ | with_reducible refine Blk.drewN ?_ _ | with_reducible refine Blk.far_ ?_ (by first | (simp; done) | (simp; omega) | omega) | with_reducible apply Blk.set_eq | rfl))
  have KB : Blk W (w.heap.size + 1) 26 (vCells 3 I S A1 0 Cp A3 0 Cq) := by subst hW; (repeat' (first | with_reducible exact Blk.new_ (by first | rfl | (simp; done) | (simp; omega)) | with_reducible refine Blk.alloc_ ?_ | with_reducible refine Blk.drew ?_ | with_reducible refine Blk.drewN ?_ _ | with_reducible refine Blk.far_ ?_ (by first | (simp; done) | (simp; omega) | omega) | with_reducible apply Blk.set_eq | rfl))
  have KR : Blk W (w.heap.size + 2) 26 (vCells 0 0 ⟨#[]⟩ none 0 0 none 0 0) := by subst hW; (repeat' (first | with_reducible exact Blk.new_ (by first | rfl | (simp; done) | (simp; omega)) | with_reducible refine Blk.alloc_ ?_ | with_reducible refine Blk.drew ?_ | with_reducible refine Blk.drewN ?_ _ | with_reducible refine Blk.far_ ?_ (by first | (simp; done) | (simp; omega) | omega) | with_reducible apply Blk.set_eq | rfl))
  clear hW
  refine (cR.out W).mono ?_
  rintro e w2 ⟨rfl, hb2⟩
  have C1 := C1.trans (Chg.of_below (S := []) hb2) (by simp)
  have KA := KA.chg (Chg.of_below (S := []) hb2) (by simp)
  have KB := KB.chg (Chg.of_below (S := []) hb2) (by simp)
  have KR := KR.chg (Chg.of_below (S := []) hb2) (by simp)
  clear hb2
  have HC := hide C1
  have HR := hide KR
  have kR0 := KR.cell 0; have kR1 := KR.cell 1; have kR2 := KR.cell 2; have kR3 := KR.cell 3; have kR4 := KR.cell 4; simp at kR0 kR1 kR2 kR3 kR4
  have z0 := KR.frozen 0; have z1 := KR.frozen 1; have z2 := KR.frozen 2; have z3 := KR.frozen 3; have z4 := KR.frozen 4
  have lR := KR.lt
  clear KR C1
  go_wp2_with fail
  refine name_postO fun W hW => ?_
  have C3 : Chg [w.heap.size + 2] w2 W := by subst hW; (repeat' (first | with_reducible exact Chg.refl _ _ | with_reducible refine Chg.alloc ?_ _ | with_reducible refine Chg.drew ?_ | with_reducible refine Chg.drewN ?_ _ | with_reducible refine Chg.set_ ?_ _ _ (by first | (simp; done) | (simp; omega) | omega)))
  have K2 : Blk W (w.heap.size + 2) 26 (vCells kk 0 ⟨#[]⟩ none 0 0 none 0 0) := by subst hW; (repeat' (first | with_reducible exact HR.out | with_reducible exact Blk.new_ (by first | rfl | (simp; done) | (simp; omega)) | with_reducible refine Blk.alloc_ ?_ | with_reducible refine Blk.drew ?_ | with_reducible refine Blk.drewN ?_ _ | with_reducible refine Blk.far_ ?_ (by first | (simp; done) | (simp; omega) | omega) | with_reducible apply Blk.set_eq | rfl))
  clear kR0 kR1 kR2 kR3 kR4 z0 z1 z2 z3 z4
  have k0 := K2.cell 0; have k1 := K2.cell 1; have k2 := K2.cell 2; have k3 := K2.cell 3; have k4 := K2.cell 4; simp at k0 k1 k2 k3 k4
  clear hW K2
  have hbel : Below w.heap.size w W := ((HC.out.mono (S' := [w.heap.size + 2]) (by simp)).trans C3 (by simp) |>.mono (S' := []) (by intro x hx; simp at hx; subst hx; exact .inr (by omega))).bel
  (try simp only [Exit.inBlock, Exit.then])
  refine bodyPost_ret (v := .tuple #[.agg (vCells kk 0 ⟨#[]⟩ none 0 0 none 0 0), .int .i64 0]) ?_ rfl ⟨_, _, _, _, rfl, hbel⟩
  simp [results, Tryz.results204, go_sem, k0, k1, k2, k3, k4]
set_option maxHeartbeats 2000000 in
set_option maxRecDepth 100000 in
theorem ogLessText (i : Int) (s : ByteArray) (a : Option Addr) (c : Nat) (a2 : Option Addr) (c2 : Nat) (I : Int) (S : ByteArray) (A1 : Option Addr) (Cp : Nat) (A3 : Option Addr) (Cq : Nat) (w : World) :
    Calls Tryz.prog 204 #[.agg (vCells 4 i s a 0 c a2 0 c2), .agg (vCells 4 I S A1 0 Cp A3 0 Cq)] w (ToldF w (if Op.bytesLess s.toList S.toList then 2 else 1) (0) ⟨#[]⟩ (0)) := by
  have cR := hide (fun W => ogTruth (Op.bytesLess s.toList S.toList) W)
  obtain ⟨kk, hkk⟩ : ∃ kk : Int, (if Op.bytesLess s.toList S.toList then (2 : Int) else 1) = kk := ⟨_, rfl⟩
  rw [hkk]
  rw [hkk] at cR
  clear hkk
  go_enter Tryz.func204, Tryz.ntmps204
  go_wp2_with fail
  refine name_world fun W hW => ?_
  have C1 : Chg [] w W := by subst hW; (repeat' (first | with_reducible exact Chg.refl _ _ | with_reducible refine Chg.alloc ?_ _ | with_reducible refine Chg.drew ?_ | with_reducible refine Chg.drewN ?_ _ | with_reducible refine Chg.set_ ?_ _ _ (by first | (simp; done) | (simp; omega) | omega)))
  have KA : Blk W (w.heap.size) 26 (vCells 4 i s a 0 c a2 0 c2) := by subst hW; (repeat' (first | with_reducible exact Blk.new_ (by first | rfl | (simp; done) | (simp; omega)) | with_reducible refine Blk.alloc_ ?_ | with_reducible refine Blk.drew ?_ | with_reducible refine Blk.drewN ?_ _ | with_reducible refine Blk.far_ ?_ (by first | (simp; done) | (simp; omega) | omega) | with_reducible apply Blk.set_eq | rfl))
  have KB : Blk W (w.heap.size + 1) 26 (vCells 4 I S A1 0 Cp A3 0 Cq) := by subst hW; (repeat' (first | with_reducible exact Blk.new_ (by first | rfl | (simp; done) | (simp; omega)) | with_reducible refine Blk.alloc_ ?_ | with_reducible refine Blk.drew ?_ | with_reducible refine Blk.drewN ?_ _ | with_reducible refine Blk.far_ ?_ (by first | (simp; done) | (simp; omega) | omega) | with_reducible apply Blk.set_eq | rfl))
  have KR : Blk W (w.heap.size + 2) 26 (vCells 0 0 ⟨#[]⟩ none 0 0 none 0 0) := by subst hW; (repeat' (first | with_reducible exact Blk.new_ (by first | rfl | (simp; done) | (simp; omega)) | with_reducible refine Blk.alloc_ ?_ | with_reducible refine Blk.drew ?_ | with_reducible refine Blk.drewN ?_ _ | with_reducible refine Blk.far_ ?_ (by first | (simp; done) | (simp; omega) | omega) | with_reducible apply Blk.set_eq | rfl))
  clear hW
  refine (cR.out W).mono ?_
  rintro e w2 ⟨rfl, hb2⟩
  have C1 := C1.trans (Chg.of_below (S := []) hb2) (by simp)
  have KA := KA.chg (Chg.of_below (S := []) hb2) (by simp)
  have KB := KB.chg (Chg.of_below (S := []) hb2) (by simp)
  have KR := KR.chg (Chg.of_below (S := []) hb2) (by simp)
  clear hb2
  have HC := hide C1
  have HR := hide KR
  have kR0 := KR.cell 0; have kR1 := KR.cell 1; have kR2 := KR.cell 2; have kR3 := KR.cell 3; have kR4 := KR.cell 4; simp at kR0 kR1 kR2 kR3 kR4
  have z0 := KR.frozen 0; have z1 := KR.frozen 1; have z2 := KR.frozen 2; have z3 := KR.frozen 3; have z4 := KR.frozen 4
  have lR := KR.lt
  clear KR C1
  go_wp2_with fail
  refine name_postO fun W hW => ?_
  have C3 : Chg [w.heap.size + 2] w2 W := by subst hW; (repeat' (first | with_reducible exact Chg.refl _ _ | with_reducible refine Chg.alloc ?_ _ | with_reducible refine Chg.drew ?_ | with_reducible refine Chg.drewN ?_ _ | with_reducible refine Chg.set_ ?_ _ _ (by first | (simp; done) | (simp; omega) | omega)))
  have K2 : Blk W (w.heap.size + 2) 26 (vCells kk 0 ⟨#[]⟩ none 0 0 none 0 0) := by subst hW; (repeat' (first | with_reducible exact HR.out | with_reducible exact Blk.new_ (by first | rfl | (simp; done) | (simp; omega)) | with_reducible refine Blk.alloc_ ?_ | with_reducible refine Blk.drew ?_ | with_reducible refine Blk.drewN ?_ _ | with_reducible refine Blk.far_ ?_ (by first | (simp; done) | (simp; omega) | omega) | with_reducible apply Blk.set_eq | rfl))
  clear kR0 kR1 kR2 kR3 kR4 z0 z1 z2 z3 z4
  have k0 := K2.cell 0; have k1 := K2.cell 1; have k2 := K2.cell 2; have k3 := K2.cell 3; have k4 := K2.cell 4; simp at k0 k1 k2 k3 k4
  clear hW K2
  have hbel : Below w.heap.size w W := ((HC.out.mono (S' := [w.heap.size + 2]) (by simp)).trans C3 (by simp) |>.mono (S' := []) (by intro x hx; simp at hx; subst hx; exact .inr (by omega))).bel
  (try simp only [Exit.inBlock, Exit.then])
  refine bodyPost_ret (v := .tuple #[.agg (vCells kk 0 ⟨#[]⟩ none 0 0 none 0 0), .int .i64 0]) ?_ rfl ⟨_, _, _, _, rfl, hbel⟩
  simp [results, Tryz.results204, go_sem, k0, k1, k2, k3, k4]
set_option maxHeartbeats 2000000 in
set_option maxRecDepth 100000 in
theorem ogLessOdd3 (i : Int) (s : ByteArray) (a : Option Addr) (c : Nat) (a2 : Option Addr) (c2 : Nat) (K I : Int) (S : ByteArray) (A1 : Option Addr) (Cp : Nat) (A3 : Option Addr) (Cq : Nat) (hK : ¬ K = 3) (w : World) :
    Calls Tryz.prog 204 #[.agg (vCells 3 i s a 0 c a2 0 c2), .agg (vCells K I S A1 0 Cp A3 0 Cq)] w (ToldF w (0) (0) ⟨#[]⟩ (13)) := by
  have e2 : (K == 3) = false := by simpa using hK
  go_enter Tryz.func204, Tryz.ntmps204
  go_wp2_with fail
  refine name_postO fun W hW => ?_
  have C3 : Chg [] w W := by subst hW; (repeat' (first | with_reducible exact Chg.refl _ _ | with_reducible refine Chg.alloc ?_ _ | with_reducible refine Chg.drew ?_ | with_reducible refine Chg.drewN ?_ _ | with_reducible refine Chg.set_ ?_ _ _ (by first | (simp; done) | (simp; omega) | omega)))
  have K2 : Blk W (w.heap.size + 2) 26 (vCells 0 0 ⟨#[]⟩ none 0 0 none 0 0) := by subst hW; (repeat' (first | with_reducible exact Blk.new_ (by first | rfl | (simp; done) | (simp; omega)) | with_reducible refine Blk.alloc_ ?_ | with_reducible refine Blk.drew ?_ | with_reducible refine Blk.drewN ?_ _ | with_reducible refine Blk.far_ ?_ (by first | (simp; done) | (simp; omega) | omega) | with_reducible apply Blk.set_eq | rfl))
  have k0 := K2.cell 0; have k1 := K2.cell 1; have k2 := K2.cell 2; have k3 := K2.cell 3; have k4 := K2.cell 4; simp at k0 k1 k2 k3 k4
  clear hW K2
  have hbel : Below w.heap.size w W := C3.bel
  (try simp only [Exit.inBlock, Exit.then])
  refine bodyPost_ret (v := .tuple #[.agg (vCells 0 0 ⟨#[]⟩ none 0 0 none 0 0), .int .i64 13]) ?_ rfl ⟨_, _, _, _, rfl, hbel⟩
  simp [results, Tryz.results204, go_sem, k0, k1, k2, k3, k4]
set_option maxHeartbeats 2000000 in
set_option maxRecDepth 100000 in
theorem ogLessOdd4 (i : Int) (s : ByteArray) (a : Option Addr) (c : Nat) (a2 : Option Addr) (c2 : Nat) (K I : Int) (S : ByteArray) (A1 : Option Addr) (Cp : Nat) (A3 : Option Addr) (Cq : Nat) (hK : ¬ K = 4) (w : World) :
    Calls Tryz.prog 204 #[.agg (vCells 4 i s a 0 c a2 0 c2), .agg (vCells K I S A1 0 Cp A3 0 Cq)] w (ToldF w (0) (0) ⟨#[]⟩ (13)) := by
  have e2 : (K == 4) = false := by simpa using hK
  go_enter Tryz.func204, Tryz.ntmps204
  go_wp2_with fail
  refine name_postO fun W hW => ?_
  have C3 : Chg [] w W := by subst hW; (repeat' (first | with_reducible exact Chg.refl _ _ | with_reducible refine Chg.alloc ?_ _ | with_reducible refine Chg.drew ?_ | with_reducible refine Chg.drewN ?_ _ | with_reducible refine Chg.set_ ?_ _ _ (by first | (simp; done) | (simp; omega) | omega)))
  have K2 : Blk W (w.heap.size + 2) 26 (vCells 0 0 ⟨#[]⟩ none 0 0 none 0 0) := by subst hW; (repeat' (first | with_reducible exact Blk.new_ (by first | rfl | (simp; done) | (simp; omega)) | with_reducible refine Blk.alloc_ ?_ | with_reducible refine Blk.drew ?_ | with_reducible refine Blk.drewN ?_ _ | with_reducible refine Blk.far_ ?_ (by first | (simp; done) | (simp; omega) | omega) | with_reducible apply Blk.set_eq | rfl))
  have k0 := K2.cell 0; have k1 := K2.cell 1; have k2 := K2.cell 2; have k3 := K2.cell 3; have k4 := K2.cell 4; simp at k0 k1 k2 k3 k4
  clear hW K2
  have hbel : Below w.heap.size w W := C3.bel
  (try simp only [Exit.inBlock, Exit.then])
  refine bodyPost_ret (v := .tuple #[.agg (vCells 0 0 ⟨#[]⟩ none 0 0 none 0 0), .int .i64 13]) ?_ rfl ⟨_, _, _, _, rfl, hbel⟩
  simp [results, Tryz.results204, go_sem, k0, k1, k2, k3, k4]
set_option maxHeartbeats 2000000 in
set_option maxRecDepth 100000 in
theorem ogLessOdd (k i : Int) (s : ByteArray) (a : Option Addr) (c : Nat) (a2 : Option Addr) (c2 : Nat) (K I : Int) (S : ByteArray) (A1 : Option Addr) (Cp : Nat) (A3 : Option Addr) (Cq : Nat) (h3 : ¬ k = 3) (h4 : ¬ k = 4) (w : World) :
    Calls Tryz.prog 204 #[.agg (vCells k i s a 0 c a2 0 c2), .agg (vCells K I S A1 0 Cp A3 0 Cq)] w (ToldF w (0) (0) ⟨#[]⟩ (13)) := by
  have e0 : (k == 3) = false := by simpa using h3
  have e1 : (k == 4) = false := by simpa using h4
  go_enter Tryz.func204, Tryz.ntmps204
  go_wp2_with fail
  refine name_postO fun W hW => ?_
  have C3 : Chg [] w W := by subst hW; (repeat' (first | with_reducible exact Chg.refl _ _ | with_reducible refine Chg.alloc ?_ _ | with_reducible refine Chg.drew ?_ | with_reducible refine Chg.drewN ?_ _ | with_reducible refine Chg.set_ ?_ _ _ (by first | (simp; done) | (simp; omega) | omega)))
  have K2 : Blk W (w.heap.size + 2) 26 (vCells 0 0 ⟨#[]⟩ none 0 0 none 0 0) := by subst hW; (repeat' (first | with_reducible exact Blk.new_ (by first | rfl | (simp; done) | (simp; omega)) | with_reducible refine Blk.alloc_ ?_ | with_reducible refine Blk.drew ?_ | with_reducible refine Blk.drewN ?_ _ | with_reducible refine Blk.far_ ?_ (by first | (simp; done) | (simp; omega) | omega) | with_reducible apply Blk.set_eq | rfl))
  have k0 := K2.cell 0; have k1 := K2.cell 1; have k2 := K2.cell 2; have k3 := K2.cell 3; have k4 := K2.cell 4; simp at k0 k1 k2 k3 k4
  clear hW K2
  have hbel : Below w.heap.size w W := C3.bel
  (try simp only [Exit.inBlock, Exit.then])
  refine bodyPost_ret (v := .tuple #[.agg (vCells 0 0 ⟨#[]⟩ none 0 0 none 0 0), .int .i64 13]) ?_ rfl ⟨_, _, _, _, rfl, hbel⟩
  simp [results, Tryz.results204, go_sem, k0, k1, k2, k3, k4]
set_option maxHeartbeats 2000000 in
set_option maxRecDepth 100000 in
theorem ogIndexOdd (k i : Int) (s : ByteArray) (a : Option Addr) (c : Nat) (a2 : Option Addr) (c2 : Nat) (K I : Int) (S : ByteArray) (A1 : Option Addr) (Cp : Nat) (A3 : Option Addr) (Cq : Nat) (h5 : ¬ k = 5) (h6 : ¬ k = 6) (w : World) :
    Calls Tryz.prog 206 #[.agg (vCells k i s a 0 c a2 0 c2), .agg (vCells K I S A1 0 Cp A3 0 Cq)] w (ToldF w (0) (0) ⟨#[]⟩ (13)) := by
  have e0 : (k == 5) = false := by simpa using h5
  have e1 : (k == 6) = false := by simpa using h6
  go_enter Tryz.func206, Tryz.ntmps206
  go_wp2_with fail
  refine name_postO fun W hW => ?_
  have C3 : Chg [] w W := by subst hW; (repeat' (first | with_reducible exact Chg.refl _ _ | with_reducible refine Chg.alloc ?_ _ | with_reducible refine Chg.drew ?_ | with_reducible refine Chg.drewN ?_ _ | with_reducible refine Chg.set_ ?_ _ _ (by first | (simp; done) | (simp; omega) | omega)))
  have K2 : Blk W (w.heap.size + 2) 26 (vCells 0 0 ⟨#[]⟩ none 0 0 none 0 0) := by subst hW; (repeat' (first | with_reducible exact Blk.new_ (by first | rfl | (simp; done) | (simp; omega)) | with_reducible refine Blk.alloc_ ?_ | with_reducible refine Blk.drew ?_ | with_reducible refine Blk.drewN ?_ _ | with_reducible refine Blk.far_ ?_ (by first | (simp; done) | (simp; omega) | omega) | with_reducible apply Blk.set_eq | rfl))
  have k0 := K2.cell 0; have k1 := K2.cell 1; have k2 := K2.cell 2; have k3 := K2.cell 3; have k4 := K2.cell 4; simp at k0 k1 k2 k3 k4
  clear hW K2
  have hbel : Below w.heap.size w W := C3.bel
  (try simp only [Exit.inBlock, Exit.then])
  refine bodyPost_ret (v := .tuple #[.agg (vCells 0 0 ⟨#[]⟩ none 0 0 none 0 0), .int .i64 13]) ?_ rfl ⟨_, _, _, _, rfl, hbel⟩
  simp [results, Tryz.results206, go_sem, k0, k1, k2, k3, k4]
set_option maxHeartbeats 2000000 in
set_option maxRecDepth 100000 in
theorem ogClone (k i : Int) (s : ByteArray) (a : Option Addr) (c : Nat) (a2 : Option Addr) (c2 : Nat) (w : World) :
    Calls Tryz.prog 157 #[.agg (vCells k i s a 0 c a2 0 c2)] w fun e w' => ∃ b d b2 d2, e = .returned (.agg (vCells k i s b 0 d b2 0 d2)) ∧ Below w.heap.size w w' := by
  have hS := hide (fun W => clone_str anyB a2 c2 [] W AtR.nil (by simp))
  obtain ⟨i0, hi, hz0, hz1, hz2⟩ := info_parts info_valF
  go_enter Tryz.func157, Tryz.ntmps157
  go_wp2_with fail
  refine name_world fun W hW => ?_
  have C1 : Chg [] w W := by subst hW; (repeat' (first | with_reducible exact Chg.refl _ _ | with_reducible refine Chg.alloc ?_ _ | with_reducible refine Chg.drew ?_ | with_reducible refine Chg.drewN ?_ _ | with_reducible refine Chg.set_ ?_ _ _ (by first | (simp; done) | (simp; omega) | omega)))
  have KA : Blk W w.heap.size 26 (vCells k i s a 0 c a2 0 c2) := by subst hW; (repeat' (first | with_reducible exact Blk.new_ (by first | rfl | (simp; done) | (simp; omega)) | with_reducible refine Blk.alloc_ ?_ | with_reducible refine Blk.drew ?_ | with_reducible refine Blk.drewN ?_ _ | with_reducible refine Blk.far_ ?_ (by first | (simp; done) | (simp; omega) | omega) | with_reducible apply Blk.set_eq | rfl))
  have KR : Blk W (w.heap.size + 1) 26 (vCells 0 0 ⟨#[]⟩ none 0 0 none 0 0) := by subst hW; (repeat' (first | with_reducible exact Blk.new_ (by first | rfl | (simp; done) | (simp; omega)) | with_reducible refine Blk.alloc_ ?_ | with_reducible refine Blk.drew ?_ | with_reducible refine Blk.drewN ?_ _ | with_reducible refine Blk.far_ ?_ (by first | (simp; done) | (simp; omega) | omega) | with_reducible apply Blk.set_eq | rfl))
  clear hW
  refine (hS.out W).mono ?_
  rintro e w2 ⟨v, es, rfl, hown, hl, _, _, hb2⟩
  have hl0 : es.length = 0 := hl
  rw [hl0] at hown
  obtain ⟨b2, d2, rfl⟩ := own_sliceO hown
  clear hown hl hl0
  have C1 := C1.trans (Chg.of_below (S := []) hb2) (by simp)
  have KA := KA.chg (Chg.of_below (S := []) hb2) (by simp)
  have KR := KR.chg (Chg.of_below (S := []) hb2) (by simp)
  clear hb2
  have HA := hide KA
  have HR := hide KR
  have kA0 := KA.cell 0; have kA1 := KA.cell 1; have kA2 := KA.cell 2; have kA3 := KA.cell 3; have kA4 := KA.cell 4; simp at kA0 kA1 kA2 kA3 kA4
  have z0 := KA.frozen 0; have z1 := KA.frozen 1; have z2 := KA.frozen 2; have z3 := KA.frozen 3; have z4 := KA.frozen 4
  have lA := KA.lt
  have lR := KR.lt
  clear KA KR
  go_wp2_with (at_make; refine wpList_make_own _ rfl _ _ 23 rfl w.heap.size 26 i0 (.agg #[.int .i64 0, .int .i64 0, .string ⟨#[]⟩, .slice none 0 0, .slice none 0 0]) 5 Tryz.underlying23 hi hz0 hz1 .i64 .i64 _ 0 rfl rfl rfl (by rw [hz2]; omega) (by unfold maxLen; omega) (by simp; omega) ?_; intro w3 hown3 hgrow3; have C3 : Chg [w.heap.size] w2 w3 := Chg.grown (by (repeat' (first | with_reducible exact Chg.refl _ _ | with_reducible refine Chg.alloc ?_ _ | with_reducible refine Chg.drew ?_ | with_reducible refine Chg.drewN ?_ _ | with_reducible refine Chg.set_ ?_ _ _ (by first | (simp; done) | (simp; omega) | omega)))) hgrow3 (by intro k e; cases e); have KA : Blk w3 w.heap.size 26 (vCells k i s a 0 c b2 0 d2) := Blk.grown (by (repeat' (first | with_reducible exact HA.out | with_reducible exact Blk.new_ (by first | rfl | (simp; done) | (simp; omega)) | with_reducible refine Blk.alloc_ ?_ | with_reducible refine Blk.drew ?_ | with_reducible refine Blk.drewN ?_ _ | with_reducible refine Blk.far_ ?_ (by first | (simp; done) | (simp; omega) | omega) | with_reducible apply Blk.set_eq | rfl))) hgrow3 (by simp); have KR : Blk w3 (w.heap.size + 1) 26 (vCells 0 0 ⟨#[]⟩ none 0 0 none 0 0) := Blk.grown (by (repeat' (first | with_reducible exact HR.out | with_reducible exact Blk.new_ (by first | rfl | (simp; done) | (simp; omega)) | with_reducible refine Blk.alloc_ ?_ | with_reducible refine Blk.drew ?_ | with_reducible refine Blk.drewN ?_ _ | with_reducible refine Blk.far_ ?_ (by first | (simp; done) | (simp; omega) | omega) | with_reducible apply Blk.set_eq | rfl))) hgrow3 (by simp); have HA3 := hide KA; have HR3 := hide KR; clear kA0 kA1 kA2 kA3 kA4 z0 z1 z2 z3 z4 lA lR; have kA0 := KA.cell 0; have kA1 := KA.cell 1; have kA2 := KA.cell 2; have kA3 := KA.cell 3; have kA4 := KA.cell 4; simp at kA0 kA1 kA2 kA3 kA4; have y0 := KA.frozen 0; have y1 := KA.frozen 1; have y2 := KA.frozen 2; have y3 := KA.frozen 3; have y4 := KA.frozen 4; have kR0 := KR.cell 0; have kR1 := KR.cell 1; have kR2 := KR.cell 2; have kR3 := KR.cell 3; have kR4 := KR.cell 4; simp at kR0 kR1 kR2 kR3 kR4; have z0 := KR.frozen 0; have z1 := KR.frozen 1; have z2 := KR.frozen 2; have z3 := KR.frozen 3; have z4 := KR.frozen 4; have lA := KA.lt; have lR := KR.lt; clear KA KR)
  clear hown3 hgrow3
  refine wp_loop_rounds 1 ?_
  rw [rounds_succ]
  go_wp2_with fail
  refine name_postO fun W hW => ?_
  have C4 : Chg [w.heap.size, w.heap.size + 1] w3 W := by subst hW; (repeat' (first | with_reducible exact Chg.refl _ _ | with_reducible refine Chg.alloc ?_ _ | with_reducible refine Chg.drew ?_ | with_reducible refine Chg.drewN ?_ _ | with_reducible refine Chg.set_ ?_ _ _ (by first | (simp; done) | (simp; omega) | omega)))
  have K2 : Blk W (w.heap.size + 1) 26 (vCells k i s (some ⟨w2.heap.size, 0, none⟩) 0 0 b2 0 d2) := by subst hW; (repeat' (first | with_reducible exact HA3.out | with_reducible exact HR3.out | with_reducible exact Blk.new_ (by first | rfl | (simp; done) | (simp; omega)) | with_reducible refine Blk.alloc_ ?_ | with_reducible refine Blk.drew ?_ | with_reducible refine Blk.drewN ?_ _ | with_reducible refine Blk.far_ ?_ (by first | (simp; done) | (simp; omega) | omega) | with_reducible apply Blk.set_eq | rfl))
  clear kA0 kA1 kA2 kA3 kA4 y0 y1 y2 y3 y4 kR0 kR1 kR2 kR3 kR4 z0 z1 z2 z3 z4
  have k0 := K2.cell 0; have k1 := K2.cell 1; have k2 := K2.cell 2; have k3 := K2.cell 3; have k4 := K2.cell 4; simp at k0 k1 k2 k3 k4
  clear hW K2
  have hbel : Below w.heap.size w W := ((C1.mono (S' := [w.heap.size, w.heap.size + 1]) (by simp)).trans ((C3.mono (S' := [w.heap.size, w.heap.size + 1]) (by intro x hx; simp at hx; subst hx; exact .inl (by simp))).trans C4 (by simp)) (by simp) |>.mono (S' := []) (by intro x hx; simp at hx; rcases hx with rfl | rfl <;> exact .inr (by omega))).bel
  (try simp only [Exit.inBlock, Exit.then])
  refine bodyPost_ret (v := .agg (vCells k i s (some ⟨w2.heap.size, 0, none⟩) 0 0 b2 0 d2)) ?_ rfl ⟨_, _, _, _, rfl, hbel⟩
  simp [results, Tryz.results157, go_sem, k0, k1, k2, k3, k4]
end Go.Proofs.YtnepogddjinpoaaGreatDoor

namespace Go.Proofs.YtnepogddjinpoaaGreatDoor
open Go.RowKit
set_option linter.unusedVariables false
set_option linter.unusedSimpArgs false

set_option maxHeartbeats 2000000 in
set_option maxRecDepth 100000 in
theorem ogPickedA (k i : Int) (s : ByteArray) (a : Option Addr) (c : Nat) (a2 : Option Addr) (c2 : Nat) (K I : Int) (S : ByteArray) (A1 : Option Addr) (Cp : Nat) (A3 : Option Addr) (Cq : Nat) (w : World) :
    Calls Tryz.prog 205 #[.bool true, .agg (vCells k i s a 0 c a2 0 c2), .agg (vCells K I S A1 0 Cp A3 0 Cq)] w (ToldF w (k) (i) s (0)) := by
  have cC := hide (fun W => ogClone k i s a c a2 c2 W)
  go_enter Tryz.func205, Tryz.ntmps205
  go_wp2_with fail
  refine name_world fun W hW => ?_
  have C1 : Chg [] w W := by subst hW; (repeat' (first | with_reducible exact Chg.refl _ _ | with_reducible refine Chg.alloc ?_ _ | with_reducible refine Chg.drew ?_ | with_reducible refine Chg.drewN ?_ _ | with_reducible refine Chg.set_ ?_ _ _ (by first | (simp; done) | (simp; omega) | omega)))
  have KA : Blk W (w.heap.size) 26 (vCells k i s a 0 c a2 0 c2) := by subst hW; (repeat' (first | with_reducible exact Blk.new_ (by first | rfl | (simp; done) | (simp; omega)) | with_reducible refine Blk.alloc_ ?_ | with_reducible refine Blk.drew ?_ | with_reducible refine Blk.drewN ?_ _ | with_reducible refine Blk.far_ ?_ (by first | (simp; done) | (simp; omega) | omega) | with_reducible apply Blk.set_eq | rfl))
  have KB : Blk W (w.heap.size + 1) 26 (vCells K I S A1 0 Cp A3 0 Cq) := by subst hW; (repeat' (first | with_reducible exact Blk.new_ (by first | rfl | (simp; done) | (simp; omega)) | with_reducible refine Blk.alloc_ ?_ | with_reducible refine Blk.drew ?_ | with_reducible refine Blk.drewN ?_ _ | with_reducible refine Blk.far_ ?_ (by first | (simp; done) | (simp; omega) | omega) | with_reducible apply Blk.set_eq | rfl))
  have KR : Blk W (w.heap.size + 2) 26 (vCells 0 0 ⟨#[]⟩ none 0 0 none 0 0) := by subst hW; (repeat' (first | with_reducible exact Blk.new_ (by first | rfl | (simp; done) | (simp; omega)) | with_reducible refine Blk.alloc_ ?_ | with_reducible refine Blk.drew ?_ | with_reducible refine Blk.drewN ?_ _ | with_reducible refine Blk.far_ ?_ (by first | (simp; done) | (simp; omega) | omega) | with_reducible apply Blk.set_eq | rfl))
  clear hW
  refine (cC.out W).mono ?_
  rintro e w2 ⟨b, d, b2, d2, rfl, hb2⟩
  have C1 := C1.trans (Chg.of_below (S := []) hb2) (by simp)
  have KR := KR.chg (Chg.of_below (S := []) hb2) (by simp)
  clear hb2
  have HC := hide C1
  have HR := hide KR
  have kR0 := KR.cell 0; have kR1 := KR.cell 1; have kR2 := KR.cell 2; have kR3 := KR.cell 3; have kR4 := KR.cell 4; simp at kR0 kR1 kR2 kR3 kR4
  have z0 := KR.frozen 0; have z1 := KR.frozen 1; have z2 := KR.frozen 2; have z3 := KR.frozen 3; have z4 := KR.frozen 4
  have lR := KR.lt
  clear KR C1
  go_wp2_with fail
  refine name_postO fun W hW => ?_
  have C3 : Chg [w.heap.size + 2] w2 W := by subst hW; (repeat' (first | with_reducible exact Chg.refl _ _ | with_reducible refine Chg.alloc ?_ _ | with_reducible refine Chg.drew ?_ | with_reducible refine Chg.drewN ?_ _ | with_reducible refine Chg.set_ ?_ _ _ (by first | (simp; done) | (simp; omega) | omega)))
  have K2 : Blk W (w.heap.size + 2) 26 (vCells k i s b 0 d b2 0 d2) := by subst hW; (repeat' (first | with_reducible exact HR.out | with_reducible exact Blk.new_ (by first | rfl | (simp; done) | (simp; omega)) | with_reducible refine Blk.alloc_ ?_ | with_reducible refine Blk.drew ?_ | with_reducible refine Blk.drewN ?_ _ | with_reducible refine Blk.far_ ?_ (by first | (simp; done) | (simp; omega) | omega) | with_reducible apply Blk.set_eq | rfl))
  clear kR0 kR1 kR2 kR3 kR4 z0 z1 z2 z3 z4
  have k0 := K2.cell 0; have k1 := K2.cell 1; have k2 := K2.cell 2; have k3 := K2.cell 3; have k4 := K2.cell 4; simp at k0 k1 k2 k3 k4
  clear hW K2
  have hbel : Below w.heap.size w W := ((HC.out.mono (S' := [w.heap.size + 2]) (by simp)).trans C3 (by simp) |>.mono (S' := []) (by intro x hx; simp at hx; subst hx; exact .inr (by omega))).bel
  (try simp only [Exit.inBlock, Exit.then])
  refine bodyPost_ret (v := .tuple #[.agg (vCells k i s b 0 d b2 0 d2), .int .i64 0]) ?_ rfl ⟨_, _, _, _, rfl, hbel⟩
  simp [results, Tryz.results205, go_sem, k0, k1, k2, k3, k4]
set_option maxHeartbeats 2000000 in
set_option maxRecDepth 100000 in
theorem ogPickedB (k i : Int) (s : ByteArray) (a : Option Addr) (c : Nat) (a2 : Option Addr) (c2 : Nat) (K I : Int) (S : ByteArray) (A1 : Option Addr) (Cp : Nat) (A3 : Option Addr) (Cq : Nat) (w : World) :
    Calls Tryz.prog 205 #[.bool false, .agg (vCells k i s a 0 c a2 0 c2), .agg (vCells K I S A1 0 Cp A3 0 Cq)] w (ToldF w (K) (I) S (0)) := by
  have cC := hide (fun W => ogClone K I S A1 Cp A3 Cq W)
  go_enter Tryz.func205, Tryz.ntmps205
  go_wp2_with fail
  refine name_world fun W hW => ?_
  have C1 : Chg [] w W := by subst hW; (repeat' (first | with_reducible exact Chg.refl _ _ | with_reducible refine Chg.alloc ?_ _ | with_reducible refine Chg.drew ?_ | with_reducible refine Chg.drewN ?_ _ | with_reducible refine Chg.set_ ?_ _ _ (by first | (simp; done) | (simp; omega) | omega)))
  have KA : Blk W (w.heap.size) 26 (vCells k i s a 0 c a2 0 c2) := by subst hW; (repeat' (first | with_reducible exact Blk.new_ (by first | rfl | (simp; done) | (simp; omega)) | with_reducible refine Blk.alloc_ ?_ | with_reducible refine Blk.drew ?_ | with_reducible refine Blk.drewN ?_ _ | with_reducible refine Blk.far_ ?_ (by first | (simp; done) | (simp; omega) | omega) | with_reducible apply Blk.set_eq | rfl))
  have KB : Blk W (w.heap.size + 1) 26 (vCells K I S A1 0 Cp A3 0 Cq) := by subst hW; (repeat' (first | with_reducible exact Blk.new_ (by first | rfl | (simp; done) | (simp; omega)) | with_reducible refine Blk.alloc_ ?_ | with_reducible refine Blk.drew ?_ | with_reducible refine Blk.drewN ?_ _ | with_reducible refine Blk.far_ ?_ (by first | (simp; done) | (simp; omega) | omega) | with_reducible apply Blk.set_eq | rfl))
  have KR : Blk W (w.heap.size + 2) 26 (vCells 0 0 ⟨#[]⟩ none 0 0 none 0 0) := by subst hW; (repeat' (first | with_reducible exact Blk.new_ (by first | rfl | (simp; done) | (simp; omega)) | with_reducible refine Blk.alloc_ ?_ | with_reducible refine Blk.drew ?_ | with_reducible refine Blk.drewN ?_ _ | with_reducible refine Blk.far_ ?_ (by first | (simp; done) | (simp; omega) | omega) | with_reducible apply Blk.set_eq | rfl))
  clear hW
  refine (cC.out W).mono ?_
  rintro e w2 ⟨b, d, b2, d2, rfl, hb2⟩
  have C1 := C1.trans (Chg.of_below (S := []) hb2) (by simp)
  have KR := KR.chg (Chg.of_below (S := []) hb2) (by simp)
  clear hb2
  have HC := hide C1
  have HR := hide KR
  have kR0 := KR.cell 0; have kR1 := KR.cell 1; have kR2 := KR.cell 2; have kR3 := KR.cell 3; have kR4 := KR.cell 4; simp at kR0 kR1 kR2 kR3 kR4
  have z0 := KR.frozen 0; have z1 := KR.frozen 1; have z2 := KR.frozen 2; have z3 := KR.frozen 3; have z4 := KR.frozen 4
  have lR := KR.lt
  clear KR C1
  go_wp2_with fail
  refine name_postO fun W hW => ?_
  have C3 : Chg [w.heap.size + 2] w2 W := by subst hW; (repeat' (first | with_reducible exact Chg.refl _ _ | with_reducible refine Chg.alloc ?_ _ | with_reducible refine Chg.drew ?_ | with_reducible refine Chg.drewN ?_ _ | with_reducible refine Chg.set_ ?_ _ _ (by first | (simp; done) | (simp; omega) | omega)))
  have K2 : Blk W (w.heap.size + 2) 26 (vCells K I S b 0 d b2 0 d2) := by subst hW; (repeat' (first | with_reducible exact HR.out | with_reducible exact Blk.new_ (by first | rfl | (simp; done) | (simp; omega)) | with_reducible refine Blk.alloc_ ?_ | with_reducible refine Blk.drew ?_ | with_reducible refine Blk.drewN ?_ _ | with_reducible refine Blk.far_ ?_ (by first | (simp; done) | (simp; omega) | omega) | with_reducible apply Blk.set_eq | rfl))
  clear kR0 kR1 kR2 kR3 kR4 z0 z1 z2 z3 z4
  have k0 := K2.cell 0; have k1 := K2.cell 1; have k2 := K2.cell 2; have k3 := K2.cell 3; have k4 := K2.cell 4; simp at k0 k1 k2 k3 k4
  clear hW K2
  have hbel : Below w.heap.size w W := ((HC.out.mono (S' := [w.heap.size + 2]) (by simp)).trans C3 (by simp) |>.mono (S' := []) (by intro x hx; simp at hx; subst hx; exact .inr (by omega))).bel
  (try simp only [Exit.inBlock, Exit.then])
  refine bodyPost_ret (v := .tuple #[.agg (vCells K I S b 0 d b2 0 d2), .int .i64 0]) ?_ rfl ⟨_, _, _, _, rfl, hbel⟩
  simp [results, Tryz.results205, go_sem, k0, k1, k2, k3, k4]
theorem ogPicked (q : Bool) (k i : Int) (s : ByteArray) (a : Option Addr) (c : Nat) (a2 : Option Addr) (c2 : Nat) (K I : Int) (S : ByteArray) (A1 : Option Addr) (Cp : Nat) (A3 : Option Addr) (Cq : Nat) (w : World) :
    Calls Tryz.prog 205 #[.bool q, .agg (vCells k i s a 0 c a2 0 c2), .agg (vCells K I S A1 0 Cp A3 0 Cq)] w (ToldF w (if q then k else K) (if q then i else I) (if q then s else S) 0) := by
  cases q with
  | true => exact ogPickedA k i s a c a2 c2 K I S A1 Cp A3 Cq w
  | false => exact ogPickedB k i s a c a2 c2 K I S A1 Cp A3 Cq w
set_option maxHeartbeats 2000000 in
set_option maxRecDepth 100000 in
theorem ogLetters (i : Int) (s : ByteArray) (a : Option Addr) (c : Nat) (a2 : Option Addr) (c2 : Nat) (g : Nat) (eg : ∀ args w, (callFunc g args).run Tryz.prog w = .ok (.enter g args) w) (X : ByteArray) (w : World) (hf : ∀ W, Below w.heap.size w W → Calls Tryz.prog g #[.string s] W fun e w' => e = .returned (.string X) ∧ Below W.heap.size W w') :
    Calls Tryz.prog 200 #[.agg (vCells 4 i s a 0 c a2 0 c2), .func (.func g) #[] #[]] w (ToldF w (4) (0) X (0)) := by
  have cF := hide hf
  have cT := hide (fun W => ogText X W)
  clear hf
  go_enter Tryz.func200, Tryz.ntmps200
  go_wp2_with fail
  refine name_world fun W hW => ?_
  have C1 : Chg [] w W := by subst hW; (repeat' (first | with_reducible exact Chg.refl _ _ | with_reducible refine Chg.alloc ?_ _ | with_reducible refine Chg.drew ?_ | with_reducible refine Chg.drewN ?_ _ | with_reducible refine Chg.set_ ?_ _ _ (by first | (simp; done) | (simp; omega) | omega)))
  have KR : Blk W (w.heap.size + 1) 26 (vCells 0 0 ⟨#[]⟩ none 0 0 none 0 0) := by subst hW; (repeat' (first | with_reducible exact Blk.new_ (by first | rfl | (simp; done) | (simp; omega)) | with_reducible refine Blk.alloc_ ?_ | with_reducible refine Blk.drew ?_ | with_reducible refine Blk.drewN ?_ _ | with_reducible refine Blk.far_ ?_ (by first | (simp; done) | (simp; omega) | omega) | with_reducible apply Blk.set_eq | rfl))
  clear hW
  refine (cF.out W C1.bel).mono ?_
  rintro e w2 ⟨rfl, hb2⟩
  have C1 := C1.trans (Chg.of_below (S := []) hb2) (by simp)
  have KR := KR.chg (Chg.of_below (S := []) hb2) (by simp)
  clear hb2
  go_wp2_with fail
  refine (cT.out w2).mono ?_
  rintro e w3 ⟨rfl, hb3⟩
  have C1 := C1.trans (Chg.of_below (S := []) hb3) (by simp)
  have KR := KR.chg (Chg.of_below (S := []) hb3) (by simp)
  clear hb3
  have HC := hide C1
  have HR := hide KR
  have kR0 := KR.cell 0; have kR1 := KR.cell 1; have kR2 := KR.cell 2; have kR3 := KR.cell 3; have kR4 := KR.cell 4; simp at kR0 kR1 kR2 kR3 kR4
  have z0 := KR.frozen 0; have z1 := KR.frozen 1; have z2 := KR.frozen 2; have z3 := KR.frozen 3; have z4 := KR.frozen 4
  have lR := KR.lt
  clear KR C1
  go_wp2_with fail
  refine name_postO fun W hW => ?_
  have C3 : Chg [w.heap.size + 1] w3 W := by subst hW; (repeat' (first | with_reducible exact Chg.refl _ _ | with_reducible refine Chg.alloc ?_ _ | with_reducible refine Chg.drew ?_ | with_reducible refine Chg.drewN ?_ _ | with_reducible refine Chg.set_ ?_ _ _ (by first | (simp; done) | (simp; omega) | omega)))
  have K2 : Blk W (w.heap.size + 1) 26 (vCells 4 0 X none 0 0 none 0 0) := by subst hW; (repeat' (first | with_reducible exact HR.out | with_reducible exact Blk.new_ (by first | rfl | (simp; done) | (simp; omega)) | with_reducible refine Blk.alloc_ ?_ | with_reducible refine Blk.drew ?_ | with_reducible refine Blk.drewN ?_ _ | with_reducible refine Blk.far_ ?_ (by first | (simp; done) | (simp; omega) | omega) | with_reducible apply Blk.set_eq | rfl))
  clear kR0 kR1 kR2 kR3 kR4 z0 z1 z2 z3 z4
  have k0 := K2.cell 0; have k1 := K2.cell 1; have k2 := K2.cell 2; have k3 := K2.cell 3; have k4 := K2.cell 4; simp at k0 k1 k2 k3 k4
  clear hW K2
  have hbel : Below w.heap.size w W := ((HC.out.mono (S' := [w.heap.size + 1]) (by simp)).trans C3 (by simp) |>.mono (S' := []) (by intro x hx; simp at hx; subst hx; exact .inr (by omega))).bel
  (try simp only [Exit.inBlock, Exit.then])
  refine bodyPost_ret (v := .tuple #[.agg (vCells 4 0 X none 0 0 none 0 0), .int .i64 0]) ?_ rfl ⟨_, _, _, _, rfl, hbel⟩
  simp [results, Tryz.results200, go_sem, k0, k1, k2, k3, k4]
set_option maxHeartbeats 2000000 in
set_option maxRecDepth 100000 in
theorem ogLettersOdd (k i : Int) (s : ByteArray) (a : Option Addr) (c : Nat) (a2 : Option Addr) (c2 : Nat) (f : Value) (h4 : ¬ k = 4) (w : World) :
    Calls Tryz.prog 200 #[.agg (vCells k i s a 0 c a2 0 c2), f] w (ToldF w (0) (0) ⟨#[]⟩ (13)) := by
  have e0 : (k == 4) = false := by simpa using h4
  go_enter Tryz.func200, Tryz.ntmps200
  go_wp2_with fail
  refine name_postO fun W hW => ?_
  have C3 : Chg [] w W := by subst hW; (repeat' (first | with_reducible exact Chg.refl _ _ | with_reducible refine Chg.alloc ?_ _ | with_reducible refine Chg.drew ?_ | with_reducible refine Chg.drewN ?_ _ | with_reducible refine Chg.set_ ?_ _ _ (by first | (simp; done) | (simp; omega) | omega)))
  have K2 : Blk W (w.heap.size + 1) 26 (vCells 0 0 ⟨#[]⟩ none 0 0 none 0 0) := by subst hW; (repeat' (first | with_reducible exact Blk.new_ (by first | rfl | (simp; done) | (simp; omega)) | with_reducible refine Blk.alloc_ ?_ | with_reducible refine Blk.drew ?_ | with_reducible refine Blk.drewN ?_ _ | with_reducible refine Blk.far_ ?_ (by first | (simp; done) | (simp; omega) | omega) | with_reducible apply Blk.set_eq | rfl))
  have k0 := K2.cell 0; have k1 := K2.cell 1; have k2 := K2.cell 2; have k3 := K2.cell 3; have k4 := K2.cell 4; simp at k0 k1 k2 k3 k4
  clear hW K2
  have hbel : Below w.heap.size w W := C3.bel
  (try simp only [Exit.inBlock, Exit.then])
  refine bodyPost_ret (v := .tuple #[.agg (vCells 0 0 ⟨#[]⟩ none 0 0 none 0 0), .int .i64 13]) ?_ rfl ⟨_, _, _, _, rfl, hbel⟩
  simp [results, Tryz.results200, go_sem, k0, k1, k2, k3, k4]
set_option maxHeartbeats 400000 in
set_option maxRecDepth 100000 in
theorem ogPrintLow (k i : Int) (s : ByteArray) (a b : Option Addr) (m c p e : Nat) (t : List UInt8) (w : World) (h : (k = 0 ∧ t = [110, 117, 108, 108]) ∨ (k = 1 ∧ t = [102, 97, 108, 115, 101]) ∨ (k = 2 ∧ t = [116, 114, 117, 101])) :
    Calls Tryz.prog 138 #[.agg (vCells k i s a m c b p e)] w fun e w' => e = .returned (.string ⟨t.toArray⟩) ∧ Below w.heap.size w w' := by
  rcases h with ⟨rfl, rfl⟩ | ⟨rfl, rfl⟩ | ⟨rfl, rfl⟩
  all_goals
    go_enter Tryz.func138, Tryz.ntmps138
    go_wp2_with fail
    go_ret
    exact ⟨rfl, (((Below.refl _ _).alloc (Nat.le_refl _) _).alloc (by simp) _).alloc (by simp; omega) _⟩
set_option maxHeartbeats 1000000 in
set_option maxRecDepth 100000 in
theorem ogPrintInt (i : Int) (s : ByteArray) (a b : Option Addr) (m c p e : Nat) (w : World) (lo : -9223372036854775808 ≤ i) (hi : i ≤ 9223372036854775807) :
    Calls Tryz.prog 138 #[.agg (vCells 3 i s a m c b p e)] w fun e w' => e = .returned (.string ⟨(pInt i).toArray⟩) ∧ Below w.heap.size w w' := by
  have cI := hide (fun w => print_any i w lo hi)
  go_enter Tryz.func138, Tryz.ntmps138
  go_wp2_with (go_at_call 129; refine (cI.out _).mono ?_; rintro e w1 ⟨rfl, hb⟩)
  go_ret
  exact ⟨rfl, (((Below.refl _ _).alloc (Nat.le_refl _) _).alloc (by simp) _).trans (hb.mono (by simp; omega))⟩
set_option maxHeartbeats 1000000 in
set_option maxRecDepth 100000 in
theorem ogPrintElse (k i : Int) (s : ByteArray) (a b : Option Addr) (m c p e : Nat) (w : World) (h : k < 0 ∨ k = 4 ∨ 7 ≤ k) :
    Calls Tryz.prog 138 #[.agg (vCells k i s a m c b p e)] w fun e w' => e = .returned (.string s) ∧ Below w.heap.size w w' := by
  have h0 : (k == 0) = false := by rw [beq_eq_false_iff_ne]; omega
  have h1 : (k == 1) = false := by rw [beq_eq_false_iff_ne]; omega
  have h2 : (k == 2) = false := by rw [beq_eq_false_iff_ne]; omega
  have h3 : (k == 3) = false := by rw [beq_eq_false_iff_ne]; omega
  have h5 : (k == 5) = false := by rw [beq_eq_false_iff_ne]; omega
  have h6 : (k == 6) = false := by rw [beq_eq_false_iff_ne]; omega
  clear h
  go_enter Tryz.func138, Tryz.ntmps138
  go_wp2_with fail
  go_ret
  exact ⟨rfl, ((Below.refl _ _).alloc (Nat.le_refl _) _).alloc (by simp) _⟩
set_option maxHeartbeats 400000 in
set_option maxRecDepth 100000 in
theorem ogEqualS (a b : Option Addr) (c d : Nat) (w : World) : Calls Tryz.prog 228 #[.slice a 0 c, .slice b 0 d] w fun e w' => e = .returned (.bool true) ∧ Below w.heap.size w w' := by
  go_enter Tryz.func228, Tryz.ntmps228
  go_wp2_with fail
  refine wp_loop_rounds 1 ?_
  rw [rounds_succ]
  go_wp2_with fail
  go_ret
  exact ⟨rfl, Below.refl _ _⟩
set_option maxHeartbeats 400000 in
set_option maxRecDepth 100000 in
theorem ogEqualV (a b : Option Addr) (c d : Nat) (f : Value) (w : World) : Calls Tryz.prog 229 #[.slice a 0 c, .slice b 0 d, f] w fun e w' => e = .returned (.bool true) ∧ Below w.heap.size w w' := by
  go_enter Tryz.func229, Tryz.ntmps229
  go_wp2_with fail
  refine wp_loop_rounds 1 ?_
  rw [rounds_succ]
  go_wp2_with fail
  go_ret
  exact ⟨rfl, Below.refl _ _⟩
set_option maxHeartbeats 2000000 in
set_option maxRecDepth 100000 in
theorem ogSameK (k i : Int) (s : ByteArray) (a : Option Addr) (c : Nat) (a2 : Option Addr) (c2 : Nat) (K I : Int) (S : ByteArray) (A1 : Option Addr) (Cp : Nat) (A3 : Option Addr) (Cq : Nat) (h : ¬ k = K) (w : World) :
    Calls Tryz.prog 203 #[.agg (vCells k i s a 0 c a2 0 c2), .agg (vCells K I S A1 0 Cp A3 0 Cq)] w fun e w' => e = .returned (.bool false) ∧ Below w.heap.size w w' := by
  have cE := hide (fun a b c d W => ogEqualS a b c d W)
  have cV := hide (fun a b c d f W => ogEqualV a b c d f W)
  have e0 : (k == K) = false := by simpa using h
  go_enter Tryz.func203, Tryz.ntmps203
  go_wp2_with fail
  go_ret
  refine ⟨rfl, ?_⟩
  refine name_it (C := fun W => Below w.heap.size w W) fun W hW => ?_
  have C1 : Chg [] w W := by subst hW; (repeat' (first | with_reducible exact Chg.refl _ _ | with_reducible refine Chg.alloc ?_ _ | with_reducible refine Chg.drew ?_ | with_reducible refine Chg.drewN ?_ _ | with_reducible refine Chg.set_ ?_ _ _ (by first | (simp; done) | (simp; omega) | omega)))
  exact C1.bel
set_option maxHeartbeats 2000000 in
set_option maxRecDepth 100000 in
theorem ogSameI (k i : Int) (s : ByteArray) (a : Option Addr) (c : Nat) (a2 : Option Addr) (c2 : Nat) (K I : Int) (S : ByteArray) (A1 : Option Addr) (Cp : Nat) (A3 : Option Addr) (Cq : Nat) (h0 : k = K) (h : ¬ i = I) (w : World) :
    Calls Tryz.prog 203 #[.agg (vCells k i s a 0 c a2 0 c2), .agg (vCells K I S A1 0 Cp A3 0 Cq)] w fun e w' => e = .returned (.bool false) ∧ Below w.heap.size w w' := by
  have cE := hide (fun a b c d W => ogEqualS a b c d W)
  have cV := hide (fun a b c d f W => ogEqualV a b c d f W)
  have e0 : (k == K) = true := by simpa using h0
  have e1 : (i == I) = false := by simpa using h
  clear h0 h
  go_enter Tryz.func203, Tryz.ntmps203
  go_wp2_with fail
  go_ret
  refine ⟨rfl, ?_⟩
  refine name_it (C := fun W => Below w.heap.size w W) fun W hW => ?_
  have C1 : Chg [] w W := by subst hW; (repeat' (first | with_reducible exact Chg.refl _ _ | with_reducible refine Chg.alloc ?_ _ | with_reducible refine Chg.drew ?_ | with_reducible refine Chg.drewN ?_ _ | with_reducible refine Chg.set_ ?_ _ _ (by first | (simp; done) | (simp; omega) | omega)))
  exact C1.bel
set_option maxHeartbeats 2000000 in
set_option maxRecDepth 100000 in
theorem ogSameS (k i : Int) (s : ByteArray) (a : Option Addr) (c : Nat) (a2 : Option Addr) (c2 : Nat) (K I : Int) (S : ByteArray) (A1 : Option Addr) (Cp : Nat) (A3 : Option Addr) (Cq : Nat) (h0 : k = K) (h1 : i = I) (h : (s.toList == S.toList) = false) (w : World) :
    Calls Tryz.prog 203 #[.agg (vCells k i s a 0 c a2 0 c2), .agg (vCells K I S A1 0 Cp A3 0 Cq)] w fun e w' => e = .returned (.bool false) ∧ Below w.heap.size w w' := by
  have cE := hide (fun a b c d W => ogEqualS a b c d W)
  have cV := hide (fun a b c d f W => ogEqualV a b c d f W)
  have e0 : (k == K) = true := by simpa using h0
  have e1 : (i == I) = true := by simpa using h1
  clear h0 h1
  go_enter Tryz.func203, Tryz.ntmps203
  go_wp2_with fail
  go_ret
  refine ⟨rfl, ?_⟩
  refine name_it (C := fun W => Below w.heap.size w W) fun W hW => ?_
  have C1 : Chg [] w W := by subst hW; (repeat' (first | with_reducible exact Chg.refl _ _ | with_reducible refine Chg.alloc ?_ _ | with_reducible refine Chg.drew ?_ | with_reducible refine Chg.drewN ?_ _ | with_reducible refine Chg.set_ ?_ _ _ (by first | (simp; done) | (simp; omega) | omega)))
  exact C1.bel
set_option maxHeartbeats 2000000 in
set_option maxRecDepth 100000 in
theorem ogSameY (k i : Int) (s : ByteArray) (a : Option Addr) (c : Nat) (a2 : Option Addr) (c2 : Nat) (K I : Int) (S : ByteArray) (A1 : Option Addr) (Cp : Nat) (A3 : Option Addr) (Cq : Nat) (h0 : k = K) (h1 : i = I) (h : (s.toList == S.toList) = true) (w : World) :
    Calls Tryz.prog 203 #[.agg (vCells k i s a 0 c a2 0 c2), .agg (vCells K I S A1 0 Cp A3 0 Cq)] w fun e w' => e = .returned (.bool true) ∧ Below w.heap.size w w' := by
  have cE := hide (fun a b c d W => ogEqualS a b c d W)
  have cV := hide (fun a b c d f W => ogEqualV a b c d f W)
  have e0 : (k == K) = true := by simpa using h0
  have e1 : (i == I) = true := by simpa using h1
  clear h0 h1
  go_enter Tryz.func203, Tryz.ntmps203
  go_wp2_with fail
  refine name_world fun W hW => ?_
  have C1 : Chg [] w W := by subst hW; (repeat' (first | with_reducible exact Chg.refl _ _ | with_reducible refine Chg.alloc ?_ _ | with_reducible refine Chg.drew ?_ | with_reducible refine Chg.drewN ?_ _ | with_reducible refine Chg.set_ ?_ _ _ (by first | (simp; done) | (simp; omega) | omega)))
  have KA : Blk W w.heap.size 26 (vCells k i s a 0 c a2 0 c2) := by subst hW; (repeat' (first | with_reducible exact Blk.new_ (by first | rfl | (simp; done) | (simp; omega)) | with_reducible refine Blk.alloc_ ?_ | with_reducible refine Blk.drew ?_ | with_reducible refine Blk.drewN ?_ _ | with_reducible refine Blk.far_ ?_ (by first | (simp; done) | (simp; omega) | omega) | with_reducible apply Blk.set_eq | rfl))
  have KB : Blk W (w.heap.size + 1) 26 (vCells K I S A1 0 Cp A3 0 Cq) := by subst hW; (repeat' (first | with_reducible exact Blk.new_ (by first | rfl | (simp; done) | (simp; omega)) | with_reducible refine Blk.alloc_ ?_ | with_reducible refine Blk.drew ?_ | with_reducible refine Blk.drewN ?_ _ | with_reducible refine Blk.far_ ?_ (by first | (simp; done) | (simp; omega) | omega) | with_reducible apply Blk.set_eq | rfl))
  clear hW
  refine (cE.out _ _ _ _ W).mono ?_
  rintro e w2 ⟨rfl, hb2⟩
  have C1 := C1.trans (Chg.of_below (S := []) hb2) (by simp)
  have KA := KA.chg (Chg.of_below (S := []) hb2) (by simp)
  have KB := KB.chg (Chg.of_below (S := []) hb2) (by simp)
  clear hb2
  have kA0 := KA.cell 0; have kA1 := KA.cell 1; have kA2 := KA.cell 2; have kA3 := KA.cell 3; have kA4 := KA.cell 4; simp at kA0 kA1 kA2 kA3 kA4
  have kB0 := KB.cell 0; have kB1 := KB.cell 1; have kB2 := KB.cell 2; have kB3 := KB.cell 3; have kB4 := KB.cell 4; simp at kB0 kB1 kB2 kB3 kB4
  have lA := KA.lt; have lB := KB.lt
  clear KA KB
  go_wp2_with fail
  refine (cV.out _ _ _ _ _ w2).mono ?_
  rintro e w3 ⟨rfl, hb3⟩
  have C1 := C1.trans (Chg.of_below (S := []) hb3) (by simp)
  clear hb3
  go_wp2_with fail
  have hbel := C1.bel
  go_ret
  exact ⟨rfl, hbel⟩
end Go.Proofs.YtnepogddjinpoaaGreatDoor
