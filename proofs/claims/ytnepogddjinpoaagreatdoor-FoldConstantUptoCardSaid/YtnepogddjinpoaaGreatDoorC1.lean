/-
  PLAIN LAWS of many texts, in one.
-/
import Derived.Test.YtnepogddjinpoaaGreatDoorOwnNode
import Derived.Test.YtnepogddjinpoaaGreatDoorM1
namespace Go.Proofs.YtnepogddjinpoaaGreatDoor
open Go.RowKit
set_option linter.unusedVariables false
set_option linter.unusedSimpArgs false

abbrev vCells (k i : Int) (s : ByteArray) (a : Option Addr) (n c : Nat) (a2 : Option Addr) (n2 c2 : Nat) : Array Value := #[.int .i64 k, .int .i64 i, .string s, .slice a n c, .slice a2 n2 c2]
abbrev vFlat (k i : Int) (s : ByteArray) : Value := .agg (vCells k i s none 0 0 none 0 0)
theorem cText (s : ByteArray) (w : World) : Calls Tryz.prog 37 #[.string s] w fun e w' => e = .returned (vFlat 4 0 s) ∧ Below w.heap.size w w' := by
  go_enter Tryz.func37, Tryz.ntmps37
  go_wp2_with fail
  refine name_postO fun W hW => ?_
  have C1 : Chg [] w W := by subst hW; (repeat' (first | with_reducible exact Chg.refl _ _ | with_reducible refine Chg.alloc ?_ _ | with_reducible refine Chg.drew ?_ | with_reducible refine Chg.drewN ?_ _ | with_reducible refine Chg.set_ ?_ _ _ (by first | (simp; done) | (simp; omega) | omega)))
  have K : Blk W w.heap.size 26 (vCells 4 0 s none 0 0 none 0 0) := by subst hW; (repeat' (first | with_reducible exact Blk.new_ (by first | rfl | (simp; done) | (simp; omega)) | with_reducible refine Blk.alloc_ ?_ | with_reducible refine Blk.drew ?_ | with_reducible refine Blk.drewN ?_ _ | with_reducible refine Blk.far_ ?_ (by first | (simp; done) | (simp; omega) | omega) | with_reducible apply Blk.set_eq | rfl))
  have k0 := K.cell 0; have k1 := K.cell 1; have k2 := K.cell 2; have k3 := K.cell 3; have k4 := K.cell 4; simp at k0 k1 k2 k3 k4
  clear hW K
  simp [bodyPost, results, Tryz.results37, go_sem, k0, k1, k2, k3, k4]
  exact C1.bel
theorem cInt (i : Int) (w : World) : Calls Tryz.prog 36 #[.int .i64 i] w fun e w' => e = .returned (vFlat 3 i ⟨#[]⟩) ∧ Below w.heap.size w w' := by
  go_enter Tryz.func36, Tryz.ntmps36
  go_wp2_with fail
  refine name_postO fun W hW => ?_
  have C1 : Chg [] w W := by subst hW; (repeat' (first | with_reducible exact Chg.refl _ _ | with_reducible refine Chg.alloc ?_ _ | with_reducible refine Chg.drew ?_ | with_reducible refine Chg.drewN ?_ _ | with_reducible refine Chg.set_ ?_ _ _ (by first | (simp; done) | (simp; omega) | omega)))
  have K : Blk W w.heap.size 26 (vCells 3 i ⟨#[]⟩ none 0 0 none 0 0) := by subst hW; (repeat' (first | with_reducible exact Blk.new_ (by first | rfl | (simp; done) | (simp; omega)) | with_reducible refine Blk.alloc_ ?_ | with_reducible refine Blk.drew ?_ | with_reducible refine Blk.drewN ?_ _ | with_reducible refine Blk.far_ ?_ (by first | (simp; done) | (simp; omega) | omega) | with_reducible apply Blk.set_eq | rfl))
  have k0 := K.cell 0; have k1 := K.cell 1; have k2 := K.cell 2; have k3 := K.cell 3; have k4 := K.cell 4; simp at k0 k1 k2 k3 k4
  clear hW K
  simp [bodyPost, results, Tryz.results36, go_sem, k0, k1, k2, k3, k4]
  exact C1.bel
theorem cTruth (b : Bool) (w : World) : Calls Tryz.prog 38 #[.bool b] w fun e w' => e = .returned (vFlat (if b then 2 else 1) 0 ⟨#[]⟩) ∧ Below w.heap.size w w' := by
  cases b with
  | true =>
    go_enter Tryz.func38, Tryz.ntmps38
    go_wp2_with fail
    refine name_postO fun W hW => ?_
    have C1 : Chg [] w W := by subst hW; (repeat' (first | with_reducible exact Chg.refl _ _ | with_reducible refine Chg.alloc ?_ _ | with_reducible refine Chg.drew ?_ | with_reducible refine Chg.drewN ?_ _ | with_reducible refine Chg.set_ ?_ _ _ (by first | (simp; done) | (simp; omega) | omega)))
    have K : Blk W w.heap.size 26 (vCells 2 0 ⟨#[]⟩ none 0 0 none 0 0) := by subst hW; (repeat' (first | with_reducible exact Blk.new_ (by first | rfl | (simp; done) | (simp; omega)) | with_reducible refine Blk.alloc_ ?_ | with_reducible refine Blk.drew ?_ | with_reducible refine Blk.drewN ?_ _ | with_reducible refine Blk.far_ ?_ (by first | (simp; done) | (simp; omega) | omega) | with_reducible apply Blk.set_eq | rfl))
    have k0 := K.cell 0; have k1 := K.cell 1; have k2 := K.cell 2; have k3 := K.cell 3; have k4 := K.cell 4; simp at k0 k1 k2 k3 k4
    clear hW K
    simp [bodyPost, results, Tryz.results38, go_sem, k0, k1, k2, k3, k4]
    exact C1.bel
  | false =>
    go_enter Tryz.func38, Tryz.ntmps38
    go_wp2_with fail
    refine name_postO fun W hW => ?_
    have C1 : Chg [] w W := by subst hW; (repeat' (first | with_reducible exact Chg.refl _ _ | with_reducible refine Chg.alloc ?_ _ | with_reducible refine Chg.drew ?_ | with_reducible refine Chg.drewN ?_ _ | with_reducible refine Chg.set_ ?_ _ _ (by first | (simp; done) | (simp; omega) | omega)))
    have K : Blk W w.heap.size 26 (vCells 1 0 ⟨#[]⟩ none 0 0 none 0 0) := by subst hW; (repeat' (first | with_reducible exact Blk.new_ (by first | rfl | (simp; done) | (simp; omega)) | with_reducible refine Blk.alloc_ ?_ | with_reducible refine Blk.drew ?_ | with_reducible refine Blk.drewN ?_ _ | with_reducible refine Blk.far_ ?_ (by first | (simp; done) | (simp; omega) | omega) | with_reducible apply Blk.set_eq | rfl))
    have k0 := K.cell 0; have k1 := K.cell 1; have k2 := K.cell 2; have k3 := K.cell 3; have k4 := K.cell 4; simp at k0 k1 k2 k3 k4
    clear hW K
    simp [bodyPost, results, Tryz.results38, go_sem, k0, k1, k2, k3, k4]
    exact C1.bel
/-- Is a value true? By its kind, number, text and how many parts it has. -/
def truthC (k i : Int) (s : ByteArray) (n : Nat) : Bool :=
  if k = 0 then false else if k = 1 then false else if k = 2 then true else if k = 3 then i != 0 else if k = 5 then decide (0 < n) else if k = 6 then decide (0 < n) else !s.toList.isEmpty
set_option maxHeartbeats 1000000 in
set_option maxRecDepth 100000 in
theorem cValTruth (k i : Int) (s : ByteArray) (a : Option Addr) (n c : Nat) (a2 : Option Addr) (n2 c2 : Nat) (w : World) : Calls Tryz.prog 42 #[.agg (vCells k i s a n c a2 n2 c2)] w fun e w' => e = .returned (.bool (truthC k i s n)) ∧ Below w.heap.size w w' := by
  obtain ⟨R, hR⟩ : ∃ R, truthC k i s n = R := ⟨_, rfl⟩
  rw [hR]
  have HR := hide hR
  clear hR
  go_enter Tryz.func42, Tryz.ntmps42
  by_cases h0 : k = 0
  · subst h0
    go_wp2_with fail
    go_ret
    refine ⟨?_, ?_⟩
    · rw [← HR.out]; simp [truthC]
    · refine name_it (C := fun W => Below w.heap.size w W) fun W hW => ?_
      have C1 : Chg [] w W := by subst hW; (repeat' (first | with_reducible exact Chg.refl _ _ | with_reducible refine Chg.alloc ?_ _ | with_reducible refine Chg.drew ?_ | with_reducible refine Chg.drewN ?_ _ | with_reducible refine Chg.set_ ?_ _ _ (by first | (simp; done) | (simp; omega) | omega)))
      exact C1.bel
  · have e0 : (k == 0) = false := by simpa using h0
    by_cases h1 : k = 1
    · subst h1
      go_wp2_with fail
      go_ret
      refine ⟨?_, ?_⟩
      · rw [← HR.out]; simp [truthC]
      · refine name_it (C := fun W => Below w.heap.size w W) fun W hW => ?_
        have C1 : Chg [] w W := by subst hW; (repeat' (first | with_reducible exact Chg.refl _ _ | with_reducible refine Chg.alloc ?_ _ | with_reducible refine Chg.drew ?_ | with_reducible refine Chg.drewN ?_ _ | with_reducible refine Chg.set_ ?_ _ _ (by first | (simp; done) | (simp; omega) | omega)))
        exact C1.bel
    · have e1 : (k == 1) = false := by simpa using h1
      by_cases h2 : k = 2
      · subst h2
        go_wp2_with fail
        go_ret
        refine ⟨?_, ?_⟩
        · rw [← HR.out]; simp [truthC]
        · refine name_it (C := fun W => Below w.heap.size w W) fun W hW => ?_
          have C1 : Chg [] w W := by subst hW; (repeat' (first | with_reducible exact Chg.refl _ _ | with_reducible refine Chg.alloc ?_ _ | with_reducible refine Chg.drew ?_ | with_reducible refine Chg.drewN ?_ _ | with_reducible refine Chg.set_ ?_ _ _ (by first | (simp; done) | (simp; omega) | omega)))
          exact C1.bel
      · have e2 : (k == 2) = false := by simpa using h2
        by_cases h3 : k = 3
        · subst h3
          go_wp2_with fail
          go_ret
          refine ⟨?_, ?_⟩
          · rw [← HR.out]; simp [truthC]
          · refine name_it (C := fun W => Below w.heap.size w W) fun W hW => ?_
            have C1 : Chg [] w W := by subst hW; (repeat' (first | with_reducible exact Chg.refl _ _ | with_reducible refine Chg.alloc ?_ _ | with_reducible refine Chg.drew ?_ | with_reducible refine Chg.drewN ?_ _ | with_reducible refine Chg.set_ ?_ _ _ (by first | (simp; done) | (simp; omega) | omega)))
            exact C1.bel
        · have e3 : (k == 3) = false := by simpa using h3
          by_cases h5 : k = 5
          · subst h5
            go_wp2_with fail
            go_ret
            refine ⟨?_, ?_⟩
            · rw [← HR.out]; simp [truthC]
            · refine name_it (C := fun W => Below w.heap.size w W) fun W hW => ?_
              have C1 : Chg [] w W := by subst hW; (repeat' (first | with_reducible exact Chg.refl _ _ | with_reducible refine Chg.alloc ?_ _ | with_reducible refine Chg.drew ?_ | with_reducible refine Chg.drewN ?_ _ | with_reducible refine Chg.set_ ?_ _ _ (by first | (simp; done) | (simp; omega) | omega)))
              exact C1.bel
          · have e5 : (k == 5) = false := by simpa using h5
            by_cases h6 : k = 6
            · subst h6
              go_wp2_with fail
              go_ret
              refine ⟨?_, ?_⟩
              · rw [← HR.out]; simp [truthC]
              · refine name_it (C := fun W => Below w.heap.size w W) fun W hW => ?_
                have C1 : Chg [] w W := by subst hW; (repeat' (first | with_reducible exact Chg.refl _ _ | with_reducible refine Chg.alloc ?_ _ | with_reducible refine Chg.drew ?_ | with_reducible refine Chg.drewN ?_ _ | with_reducible refine Chg.set_ ?_ _ _ (by first | (simp; done) | (simp; omega) | omega)))
                exact C1.bel
            · have e6 : (k == 6) = false := by simpa using h6
              go_wp2_with fail
              go_ret
              refine ⟨?_, ?_⟩
              · rw [← HR.out]; simp [truthC, h0, h1, h2, h3, h5, h6]
              · refine name_it (C := fun W => Below w.heap.size w W) fun W hW => ?_
                have C1 : Chg [] w W := by subst hW; (repeat' (first | with_reducible exact Chg.refl _ _ | with_reducible refine Chg.alloc ?_ _ | with_reducible refine Chg.drew ?_ | with_reducible refine Chg.drewN ?_ _ | with_reducible refine Chg.set_ ?_ _ _ (by first | (simp; done) | (simp; omega) | omega)))
                exact C1.bel
/-- How long a value is, and the error. -/
def lenC (k : Int) (s : ByteArray) (n : Nat) : Int × Int := if k = 5 ∨ k = 6 then ((n : Int), 0) else if k = 4 ∨ 7 ≤ k then ((s.size : Int), 0) else (0, 13)
def arityB (s : ByteArray) : Int × Int × Bool :=
  if s.toList == [108, 101, 110] || s.toList == [110, 111, 116] || s.toList == [117, 112, 112, 101, 114] || s.toList == [108, 111, 119, 101, 114] then (1, 1, true)
  else if s.toList == [101, 113] || s.toList == [108, 116] || s.toList == [97, 110, 100] || s.toList == [111, 114] || s.toList == [106, 111, 105, 110] || s.toList == [100, 101, 102, 97, 117, 108, 116] || s.toList == [105, 110, 100, 101, 120] then (2, 2, true)
  else if s.toList == [112, 114, 105, 110, 116] then (1, 8, true) else (0, 0, false)
set_option maxHeartbeats 1000000 in
set_option maxRecDepth 100000 in
theorem cArity (s : ByteArray) (w : World) : Calls Tryz.prog 40 #[.string s] w fun e w' => e = .returned (.tuple #[.int .i64 (arityB s).1, .int .i64 (arityB s).2.1, .bool (arityB s).2.2]) ∧ w = w' := by
  obtain ⟨R, hR⟩ : ∃ R, arityB s = R := ⟨_, rfl⟩
  rw [hR]
  have HR := hide hR
  clear hR
  go_enter Tryz.func40, Tryz.ntmps40
  rcases Bool.eq_false_or_eq_true (s.toList == [108, 101, 110]) with h0 | h0
  · go_wp2_with fail
    go_ret3
    exact ⟨by rw [← HR.out]; simp [arityB, h0], rfl⟩
  · skip
    rcases Bool.eq_false_or_eq_true (s.toList == [110, 111, 116]) with h1 | h1
    · go_wp2_with fail
      go_ret3
      exact ⟨by rw [← HR.out]; simp [arityB, h0, h1], rfl⟩
    · skip
      rcases Bool.eq_false_or_eq_true (s.toList == [117, 112, 112, 101, 114]) with h2 | h2
      · go_wp2_with fail
        go_ret3
        exact ⟨by rw [← HR.out]; simp [arityB, h0, h1, h2], rfl⟩
      · skip
        rcases Bool.eq_false_or_eq_true (s.toList == [108, 111, 119, 101, 114]) with h3 | h3
        · go_wp2_with fail
          go_ret3
          exact ⟨by rw [← HR.out]; simp [arityB, h0, h1, h2, h3], rfl⟩
        · skip
          rcases Bool.eq_false_or_eq_true (s.toList == [101, 113]) with h4 | h4
          · go_wp2_with fail
            go_ret3
            exact ⟨by rw [← HR.out]; simp [arityB, h0, h1, h2, h3, h4], rfl⟩
          · skip
            rcases Bool.eq_false_or_eq_true (s.toList == [108, 116]) with h5 | h5
            · go_wp2_with fail
              go_ret3
              exact ⟨by rw [← HR.out]; simp [arityB, h0, h1, h2, h3, h4, h5], rfl⟩
            · skip
              rcases Bool.eq_false_or_eq_true (s.toList == [97, 110, 100]) with h6 | h6
              · go_wp2_with fail
                go_ret3
                exact ⟨by rw [← HR.out]; simp [arityB, h0, h1, h2, h3, h4, h5, h6], rfl⟩
              · skip
                rcases Bool.eq_false_or_eq_true (s.toList == [111, 114]) with h7 | h7
                · go_wp2_with fail
                  go_ret3
                  exact ⟨by rw [← HR.out]; simp [arityB, h0, h1, h2, h3, h4, h5, h6, h7], rfl⟩
                · skip
                  rcases Bool.eq_false_or_eq_true (s.toList == [106, 111, 105, 110]) with h8 | h8
                  · go_wp2_with fail
                    go_ret3
                    exact ⟨by rw [← HR.out]; simp [arityB, h0, h1, h2, h3, h4, h5, h6, h7, h8], rfl⟩
                  · skip
                    rcases Bool.eq_false_or_eq_true (s.toList == [100, 101, 102, 97, 117, 108, 116]) with h9 | h9
                    · go_wp2_with fail
                      go_ret3
                      exact ⟨by rw [← HR.out]; simp [arityB, h0, h1, h2, h3, h4, h5, h6, h7, h8, h9], rfl⟩
                    · skip
                      rcases Bool.eq_false_or_eq_true (s.toList == [105, 110, 100, 101, 120]) with h10 | h10
                      · go_wp2_with fail
                        go_ret3
                        exact ⟨by rw [← HR.out]; simp [arityB, h0, h1, h2, h3, h4, h5, h6, h7, h8, h9, h10], rfl⟩
                      · skip
                        rcases Bool.eq_false_or_eq_true (s.toList == [112, 114, 105, 110, 116]) with h11 | h11
                        · go_wp2_with fail
                          go_ret3
                          exact ⟨by rw [← HR.out]; simp [arityB, h0, h1, h2, h3, h4, h5, h6, h7, h8, h9, h10, h11], rfl⟩
                        · skip
                          go_wp2_with fail
                          go_ret3
                          exact ⟨by rw [← HR.out]; simp [arityB, h0, h1, h2, h3, h4, h5, h6, h7, h8, h9, h10, h11], rfl⟩
end Go.Proofs.YtnepogddjinpoaaGreatDoor

namespace Go.Proofs.YtnepogddjinpoaaGreatDoor
open Go.RowKit
set_option linter.unusedVariables false
set_option linter.unusedSimpArgs false

set_option maxHeartbeats 1000000 in
set_option maxRecDepth 100000 in
theorem cLen (k i : Int) (s : ByteArray) (a : Option Addr) (n c : Nat) (a2 : Option Addr) (n2 c2 : Nat) (w : World) : Calls Tryz.prog 41 #[.agg (vCells k i s a n c a2 n2 c2)] w fun e w' => e = .returned (.tuple #[.int .i64 (lenC k s n).1, .int .i64 (lenC k s n).2]) ∧ Below w.heap.size w w' := by
  obtain ⟨R, hR⟩ : ∃ R, lenC k s n = R := ⟨_, rfl⟩
  rw [hR]
  have HR := hide hR
  clear hR
  go_enter Tryz.func41, Tryz.ntmps41
  by_cases h5 : k = 5
  · subst h5
    go_wp2_with fail
    go_ret2
    refine ⟨?_, ?_⟩
    · rw [← HR.out]; simp [lenC]
    · refine name_it (C := fun W => Below w.heap.size w W) fun W hW => ?_
      have C1 : Chg [] w W := by subst hW; (repeat' (first | with_reducible exact Chg.refl _ _ | with_reducible refine Chg.alloc ?_ _ | with_reducible refine Chg.drew ?_ | with_reducible refine Chg.drewN ?_ _ | with_reducible refine Chg.set_ ?_ _ _ (by first | (simp; done) | (simp; omega) | omega)))
      exact C1.bel
  · have e5 : (k == 5) = false := by simpa using h5
    by_cases h6 : k = 6
    · subst h6
      go_wp2_with fail
      go_ret2
      refine ⟨?_, ?_⟩
      · rw [← HR.out]; simp [lenC]
      · refine name_it (C := fun W => Below w.heap.size w W) fun W hW => ?_
        have C1 : Chg [] w W := by subst hW; (repeat' (first | with_reducible exact Chg.refl _ _ | with_reducible refine Chg.alloc ?_ _ | with_reducible refine Chg.drew ?_ | with_reducible refine Chg.drewN ?_ _ | with_reducible refine Chg.set_ ?_ _ _ (by first | (simp; done) | (simp; omega) | omega)))
        exact C1.bel
    · have e6 : (k == 6) = false := by simpa using h6
      by_cases h4 : k = 4
      · subst h4
        go_wp2_with fail
        go_ret2
        refine ⟨?_, ?_⟩
        · rw [← HR.out]; simp [lenC]
        · refine name_it (C := fun W => Below w.heap.size w W) fun W hW => ?_
          have C1 : Chg [] w W := by subst hW; (repeat' (first | with_reducible exact Chg.refl _ _ | with_reducible refine Chg.alloc ?_ _ | with_reducible refine Chg.drew ?_ | with_reducible refine Chg.drewN ?_ _ | with_reducible refine Chg.set_ ?_ _ _ (by first | (simp; done) | (simp; omega) | omega)))
          exact C1.bel
      · have e4 : (k == 4) = false := by simpa using h4
        by_cases h7 : 7 ≤ k
        · have e7 : decide ((7 : Int) ≤ k) = true := by simpa using h7
          go_wp2_with fail
          go_ret2
          refine ⟨?_, ?_⟩
          · rw [← HR.out]; simp [lenC, h5, h6, h4, h7]
          · refine name_it (C := fun W => Below w.heap.size w W) fun W hW => ?_
            have C1 : Chg [] w W := by subst hW; (repeat' (first | with_reducible exact Chg.refl _ _ | with_reducible refine Chg.alloc ?_ _ | with_reducible refine Chg.drew ?_ | with_reducible refine Chg.drewN ?_ _ | with_reducible refine Chg.set_ ?_ _ _ (by first | (simp; done) | (simp; omega) | omega)))
            exact C1.bel
        · have e7 : decide ((7 : Int) ≤ k) = false := by simpa using h7
          go_wp2_with fail
          go_ret2
          refine ⟨?_, ?_⟩
          · rw [← HR.out]; simp [lenC, h5, h6, h4, (show ¬ (7 : Int) ≤ k by omega)]
          · refine name_it (C := fun W => Below w.heap.size w W) fun W hW => ?_
            have C1 : Chg [] w W := by subst hW; (repeat' (first | with_reducible exact Chg.refl _ _ | with_reducible refine Chg.alloc ?_ _ | with_reducible refine Chg.drew ?_ | with_reducible refine Chg.drewN ?_ _ | with_reducible refine Chg.set_ ?_ _ _ (by first | (simp; done) | (simp; omega) | omega)))
            exact C1.bel
/-- A text as a value, or none where it is too long; and the error. -/
def madeV (s : ByteArray) : Value := if 4096 < s.size then vFlat 0 0 ⟨#[]⟩ else vFlat 4 0 s
def madeE (s : ByteArray) : Int := if 4096 < s.size then 5 else 0
set_option maxHeartbeats 1000000 in
set_option maxRecDepth 100000 in
theorem cMade (s : ByteArray) (w : World) : Calls Tryz.prog 43 #[.string s] w fun e w' => e = .returned (.tuple #[madeV s, .int .i64 (madeE s)]) ∧ Below w.heap.size w w' := by
  by_cases hs : 4096 < s.size
  · have h1 : madeV s = vFlat 0 0 ⟨#[]⟩ := if_pos hs
    have h2 : madeE s = 5 := if_pos hs
    rw [h1, h2]
    have e1 : decide ((4096 : Int) < (s.size : Int)) = true := by simp; omega
    clear h1 h2
    go_enter Tryz.func43, Tryz.ntmps43
    go_wp2_with fail
    refine name_postO fun W hW => ?_
    have C1 : Chg [] w W := by subst hW; (repeat' (first | with_reducible exact Chg.refl _ _ | with_reducible refine Chg.alloc ?_ _ | with_reducible refine Chg.drew ?_ | with_reducible refine Chg.drewN ?_ _ | with_reducible refine Chg.set_ ?_ _ _ (by first | (simp; done) | (simp; omega) | omega)))
    have K : Blk W w.heap.size 26 (vCells 0 0 ⟨#[]⟩ none 0 0 none 0 0) := by subst hW; (repeat' (first | with_reducible exact Blk.new_ (by first | rfl | (simp; done) | (simp; omega)) | with_reducible refine Blk.alloc_ ?_ | with_reducible refine Blk.drew ?_ | with_reducible refine Blk.drewN ?_ _ | with_reducible refine Blk.far_ ?_ (by first | (simp; done) | (simp; omega) | omega) | with_reducible apply Blk.set_eq | rfl))
    have k0 := K.cell 0; have k1 := K.cell 1; have k2 := K.cell 2; have k3 := K.cell 3; have k4 := K.cell 4; simp at k0 k1 k2 k3 k4
    clear hW K
    simp [bodyPost, results, Tryz.results43, go_sem, k0, k1, k2, k3, k4]
    exact C1.bel
  · have h1 : madeV s = vFlat 4 0 s := if_neg hs
    have h2 : madeE s = 0 := if_neg hs
    rw [h1, h2]
    have e1 : decide ((4096 : Int) < (s.size : Int)) = false := by simp; omega
    clear h1 h2
    go_enter Tryz.func43, Tryz.ntmps43
    go_wp2_with fail
    refine name_world fun W hW => ?_
    have C1 : Chg [] w W := by subst hW; (repeat' (first | with_reducible exact Chg.refl _ _ | with_reducible refine Chg.alloc ?_ _ | with_reducible refine Chg.drew ?_ | with_reducible refine Chg.drewN ?_ _ | with_reducible refine Chg.set_ ?_ _ _ (by first | (simp; done) | (simp; omega) | omega)))
    have K : Blk W w.heap.size 26 (vCells 0 0 ⟨#[]⟩ none 0 0 none 0 0) := by subst hW; (repeat' (first | with_reducible exact Blk.new_ (by first | rfl | (simp; done) | (simp; omega)) | with_reducible refine Blk.alloc_ ?_ | with_reducible refine Blk.drew ?_ | with_reducible refine Blk.drewN ?_ _ | with_reducible refine Blk.far_ ?_ (by first | (simp; done) | (simp; omega) | omega) | with_reducible apply Blk.set_eq | rfl))
    clear hW
    refine (cText s W).mono ?_
    rintro e w1 ⟨rfl, hb1⟩
    have C2 := hide (C1.trans (Chg.of_below (S := []) hb1) (by simp))
    have K1 := K.chg (Chg.of_below (S := []) hb1) (by simp)
    have HK1 := hide K1
    have k0 := K1.cell 0; have k1 := K1.cell 1; have k2 := K1.cell 2; have k3 := K1.cell 3; have k4 := K1.cell 4; simp at k0 k1 k2 k3 k4
    have z0 := K1.frozen 0; have z1 := K1.frozen 1; have z2 := K1.frozen 2; have z3 := K1.frozen 3; have z4 := K1.frozen 4
    have l1 := K1.lt
    clear K K1 hb1 C1
    go_wp2_with fail
    refine name_postO fun W hW => ?_
    have C3 : Chg [w.heap.size] w1 W := by subst hW; (repeat' (first | with_reducible exact Chg.refl _ _ | with_reducible refine Chg.alloc ?_ _ | with_reducible refine Chg.drew ?_ | with_reducible refine Chg.drewN ?_ _ | with_reducible refine Chg.set_ ?_ _ _ (by first | (simp; done) | (simp; omega) | omega)))
    have K2 : Blk W w.heap.size 26 (vCells 4 0 s none 0 0 none 0 0) := by subst hW; (repeat' (first | with_reducible exact HK1.out | with_reducible exact Blk.new_ (by first | rfl | (simp; done) | (simp; omega)) | with_reducible refine Blk.alloc_ ?_ | with_reducible refine Blk.drew ?_ | with_reducible refine Blk.drewN ?_ _ | with_reducible refine Blk.far_ ?_ (by first | (simp; done) | (simp; omega) | omega) | with_reducible apply Blk.set_eq | rfl))
    clear k0 k1 k2 k3 k4 z0 z1 z2 z3 z4
    have k0 := K2.cell 0; have k1 := K2.cell 1; have k2 := K2.cell 2; have k3 := K2.cell 3; have k4 := K2.cell 4; simp at k0 k1 k2 k3 k4
    clear hW K2
    simp [bodyPost, results, Tryz.results43, go_sem, k0, k1, k2, k3, k4]
    exact ((C2.out.mono (S' := [w.heap.size]) (by simp)).trans C3 (by simp) |>.mono (S' := []) (by intro x hx; simp at hx; subst hx; exact .inr (Nat.le_refl _))).bel
end Go.Proofs.YtnepogddjinpoaaGreatDoor

namespace Go.Proofs.YtnepogddjinpoaaGreatDoor
open Go.RowKit
set_option linter.unusedVariables false
set_option linter.unusedSimpArgs false

theorem vCells1 (k i : Int) (s : ByteArray) (a : Option Addr) (n c : Nat) (a2 : Option Addr) (n2 c2 : Nat) : True := trivial
set_option maxHeartbeats 1000000 in
set_option maxRecDepth 100000 in
theorem cTwo_and (k i : Int) (s : ByteArray) (a : Option Addr) (n c : Nat) (a2 : Option Addr) (n2 c2 : Nat) (K I : Int) (S : ByteArray) (A1 : Option Addr) (N Cp : Nat) (A3 : Option Addr) (N2 Cq : Nat) (w : World) (b : Bool) (hb : truthC k i s n = b) :
    Calls Tryz.prog 47 #[.string ⟨#[97, 110, 100]⟩, .agg (vCells k i s a n c a2 n2 c2), .agg (vCells K I S A1 N Cp A3 N2 Cq)] w fun e w' => e = .returned (.tuple #[.agg (if b then vCells K I S A1 N Cp A3 N2 Cq else vCells k i s a n c a2 n2 c2), .int .i64 0]) ∧ Below w.heap.size w w' := by
  have e_eq : ((⟨#[97, 110, 100]⟩ : ByteArray) == ⟨#[101, 113]⟩) = false := by decide +kernel
  have e_lt : ((⟨#[97, 110, 100]⟩ : ByteArray) == ⟨#[108, 116]⟩) = false := by decide +kernel
  have cT := hide (fun W => cValTruth k i s a n c a2 n2 c2 W)
  rw [hb] at cT
  clear hb
  cases b with
  | true =>
    show Calls Tryz.prog 47 _ w fun e w' => e = .returned (.tuple #[.agg (vCells K I S A1 N Cp A3 N2 Cq), .int .i64 0]) ∧ Below w.heap.size w w'
    go_enter Tryz.func47, Tryz.ntmps47
    go_wp2_with fail
    refine name_world fun W hW => ?_
    have C1 : Chg [] w W := by subst hW; (repeat' (first | with_reducible exact Chg.refl _ _ | with_reducible refine Chg.alloc ?_ _ | with_reducible refine Chg.drew ?_ | with_reducible refine Chg.drewN ?_ _ | with_reducible refine Chg.set_ ?_ _ _ (by first | (simp; done) | (simp; omega) | omega)))
    have KX : Blk W (w.heap.size + 1) 26 (vCells K I S A1 N Cp A3 N2 Cq) := by subst hW; (repeat' (first | with_reducible exact Blk.new_ (by first | rfl | (simp; done) | (simp; omega)) | with_reducible refine Blk.alloc_ ?_ | with_reducible refine Blk.drew ?_ | with_reducible refine Blk.drewN ?_ _ | with_reducible refine Blk.far_ ?_ (by first | (simp; done) | (simp; omega) | omega) | with_reducible apply Blk.set_eq | rfl))
    have KR : Blk W (w.heap.size + 2) 26 (vCells 0 0 ⟨#[]⟩ none 0 0 none 0 0) := by subst hW; (repeat' (first | with_reducible exact Blk.new_ (by first | rfl | (simp; done) | (simp; omega)) | with_reducible refine Blk.alloc_ ?_ | with_reducible refine Blk.drew ?_ | with_reducible refine Blk.drewN ?_ _ | with_reducible refine Blk.far_ ?_ (by first | (simp; done) | (simp; omega) | omega) | with_reducible apply Blk.set_eq | rfl))
    clear hW
    refine (cT.out W).mono ?_
    rintro e w1 ⟨rfl, hb1⟩
    have C2 := hide (C1.trans (Chg.of_below (S := []) hb1) (by simp))
    have KX1 := KX.chg (Chg.of_below (S := []) hb1) (by simp)
    have KR1 := KR.chg (Chg.of_below (S := []) hb1) (by simp)
    have HR := hide KR1
    have k0 := KX1.cell 0; have k1 := KX1.cell 1; have k2 := KX1.cell 2; have k3 := KX1.cell 3; have k4 := KX1.cell 4; simp at k0 k1 k2 k3 k4
    have r0 := KR1.cell 0; have r1 := KR1.cell 1; have r2 := KR1.cell 2; have r3 := KR1.cell 3; have r4 := KR1.cell 4; simp at r0 r1 r2 r3 r4
    have z0 := KR1.frozen 0; have z1 := KR1.frozen 1; have z2 := KR1.frozen 2; have z3 := KR1.frozen 3; have z4 := KR1.frozen 4
    have l1 := KR1.lt
    have lX := KX1.lt
    clear KX KR KX1 KR1 hb1 C1
    go_wp2_with fail
    refine name_postO fun W hW => ?_
    have C3 : Chg [w.heap.size + 2] w1 W := by subst hW; (repeat' (first | with_reducible exact Chg.refl _ _ | with_reducible refine Chg.alloc ?_ _ | with_reducible refine Chg.drew ?_ | with_reducible refine Chg.drewN ?_ _ | with_reducible refine Chg.set_ ?_ _ _ (by first | (simp; done) | (simp; omega) | omega)))
    have K2 : Blk W (w.heap.size + 2) 26 (vCells K I S A1 N Cp A3 N2 Cq) := by subst hW; (repeat' (first | with_reducible exact HR.out | with_reducible exact Blk.new_ (by first | rfl | (simp; done) | (simp; omega)) | with_reducible refine Blk.alloc_ ?_ | with_reducible refine Blk.drew ?_ | with_reducible refine Blk.drewN ?_ _ | with_reducible refine Blk.far_ ?_ (by first | (simp; done) | (simp; omega) | omega) | with_reducible apply Blk.set_eq | rfl))
    clear k0 k1 k2 k3 k4 r0 r1 r2 r3 r4 z0 z1 z2 z3 z4
    have k0 := K2.cell 0; have k1 := K2.cell 1; have k2 := K2.cell 2; have k3 := K2.cell 3; have k4 := K2.cell 4; simp at k0 k1 k2 k3 k4
    clear hW K2
    simp [bodyPost, results, Tryz.results47, go_sem, k0, k1, k2, k3, k4]
    exact ((C2.out.mono (S' := [w.heap.size + 2]) (by simp)).trans C3 (by simp) |>.mono (S' := []) (by intro x hx; simp at hx; subst hx; exact .inr (by omega))).bel
  | false =>
    show Calls Tryz.prog 47 _ w fun e w' => e = .returned (.tuple #[.agg (vCells k i s a n c a2 n2 c2), .int .i64 0]) ∧ Below w.heap.size w w'
    go_enter Tryz.func47, Tryz.ntmps47
    go_wp2_with fail
    refine name_world fun W hW => ?_
    have C1 : Chg [] w W := by subst hW; (repeat' (first | with_reducible exact Chg.refl _ _ | with_reducible refine Chg.alloc ?_ _ | with_reducible refine Chg.drew ?_ | with_reducible refine Chg.drewN ?_ _ | with_reducible refine Chg.set_ ?_ _ _ (by first | (simp; done) | (simp; omega) | omega)))
    have KX : Blk W (w.heap.size) 26 (vCells k i s a n c a2 n2 c2) := by subst hW; (repeat' (first | with_reducible exact Blk.new_ (by first | rfl | (simp; done) | (simp; omega)) | with_reducible refine Blk.alloc_ ?_ | with_reducible refine Blk.drew ?_ | with_reducible refine Blk.drewN ?_ _ | with_reducible refine Blk.far_ ?_ (by first | (simp; done) | (simp; omega) | omega) | with_reducible apply Blk.set_eq | rfl))
    have KR : Blk W (w.heap.size + 2) 26 (vCells 0 0 ⟨#[]⟩ none 0 0 none 0 0) := by subst hW; (repeat' (first | with_reducible exact Blk.new_ (by first | rfl | (simp; done) | (simp; omega)) | with_reducible refine Blk.alloc_ ?_ | with_reducible refine Blk.drew ?_ | with_reducible refine Blk.drewN ?_ _ | with_reducible refine Blk.far_ ?_ (by first | (simp; done) | (simp; omega) | omega) | with_reducible apply Blk.set_eq | rfl))
    clear hW
    refine (cT.out W).mono ?_
    rintro e w1 ⟨rfl, hb1⟩
    have C2 := hide (C1.trans (Chg.of_below (S := []) hb1) (by simp))
    have KX1 := KX.chg (Chg.of_below (S := []) hb1) (by simp)
    have KR1 := KR.chg (Chg.of_below (S := []) hb1) (by simp)
    have HR := hide KR1
    have k0 := KX1.cell 0; have k1 := KX1.cell 1; have k2 := KX1.cell 2; have k3 := KX1.cell 3; have k4 := KX1.cell 4; simp at k0 k1 k2 k3 k4
    have r0 := KR1.cell 0; have r1 := KR1.cell 1; have r2 := KR1.cell 2; have r3 := KR1.cell 3; have r4 := KR1.cell 4; simp at r0 r1 r2 r3 r4
    have z0 := KR1.frozen 0; have z1 := KR1.frozen 1; have z2 := KR1.frozen 2; have z3 := KR1.frozen 3; have z4 := KR1.frozen 4
    have l1 := KR1.lt
    have lX := KX1.lt
    clear KX KR KX1 KR1 hb1 C1
    go_wp2_with fail
    refine name_postO fun W hW => ?_
    have C3 : Chg [w.heap.size + 2] w1 W := by subst hW; (repeat' (first | with_reducible exact Chg.refl _ _ | with_reducible refine Chg.alloc ?_ _ | with_reducible refine Chg.drew ?_ | with_reducible refine Chg.drewN ?_ _ | with_reducible refine Chg.set_ ?_ _ _ (by first | (simp; done) | (simp; omega) | omega)))
    have K2 : Blk W (w.heap.size + 2) 26 (vCells k i s a n c a2 n2 c2) := by subst hW; (repeat' (first | with_reducible exact HR.out | with_reducible exact Blk.new_ (by first | rfl | (simp; done) | (simp; omega)) | with_reducible refine Blk.alloc_ ?_ | with_reducible refine Blk.drew ?_ | with_reducible refine Blk.drewN ?_ _ | with_reducible refine Blk.far_ ?_ (by first | (simp; done) | (simp; omega) | omega) | with_reducible apply Blk.set_eq | rfl))
    clear k0 k1 k2 k3 k4 r0 r1 r2 r3 r4 z0 z1 z2 z3 z4
    have k0 := K2.cell 0; have k1 := K2.cell 1; have k2 := K2.cell 2; have k3 := K2.cell 3; have k4 := K2.cell 4; simp at k0 k1 k2 k3 k4
    clear hW K2
    simp [bodyPost, results, Tryz.results47, go_sem, k0, k1, k2, k3, k4]
    exact ((C2.out.mono (S' := [w.heap.size + 2]) (by simp)).trans C3 (by simp) |>.mono (S' := []) (by intro x hx; simp at hx; subst hx; exact .inr (by omega))).bel
set_option maxHeartbeats 1000000 in
set_option maxRecDepth 100000 in
theorem cTwo_or (k i : Int) (s : ByteArray) (a : Option Addr) (n c : Nat) (a2 : Option Addr) (n2 c2 : Nat) (K I : Int) (S : ByteArray) (A1 : Option Addr) (N Cp : Nat) (A3 : Option Addr) (N2 Cq : Nat) (w : World) (b : Bool) (hb : truthC k i s n = b) :
    Calls Tryz.prog 47 #[.string ⟨#[111, 114]⟩, .agg (vCells k i s a n c a2 n2 c2), .agg (vCells K I S A1 N Cp A3 N2 Cq)] w fun e w' => e = .returned (.tuple #[.agg (if b then vCells k i s a n c a2 n2 c2 else vCells K I S A1 N Cp A3 N2 Cq), .int .i64 0]) ∧ Below w.heap.size w w' := by
  have e_eq : ((⟨#[111, 114]⟩ : ByteArray) == ⟨#[101, 113]⟩) = false := by decide +kernel
  have e_lt : ((⟨#[111, 114]⟩ : ByteArray) == ⟨#[108, 116]⟩) = false := by decide +kernel
  have e_and : ((⟨#[111, 114]⟩ : ByteArray) == ⟨#[97, 110, 100]⟩) = false := by decide +kernel
  have cT := hide (fun W => cValTruth k i s a n c a2 n2 c2 W)
  rw [hb] at cT
  clear hb
  cases b with
  | true =>
    show Calls Tryz.prog 47 _ w fun e w' => e = .returned (.tuple #[.agg (vCells k i s a n c a2 n2 c2), .int .i64 0]) ∧ Below w.heap.size w w'
    go_enter Tryz.func47, Tryz.ntmps47
    go_wp2_with fail
    refine name_world fun W hW => ?_
    have C1 : Chg [] w W := by subst hW; (repeat' (first | with_reducible exact Chg.refl _ _ | with_reducible refine Chg.alloc ?_ _ | with_reducible refine Chg.drew ?_ | with_reducible refine Chg.drewN ?_ _ | with_reducible refine Chg.set_ ?_ _ _ (by first | (simp; done) | (simp; omega) | omega)))
    have KX : Blk W (w.heap.size) 26 (vCells k i s a n c a2 n2 c2) := by subst hW; (repeat' (first | with_reducible exact Blk.new_ (by first | rfl | (simp; done) | (simp; omega)) | with_reducible refine Blk.alloc_ ?_ | with_reducible refine Blk.drew ?_ | with_reducible refine Blk.drewN ?_ _ | with_reducible refine Blk.far_ ?_ (by first | (simp; done) | (simp; omega) | omega) | with_reducible apply Blk.set_eq | rfl))
    have KR : Blk W (w.heap.size + 2) 26 (vCells 0 0 ⟨#[]⟩ none 0 0 none 0 0) := by subst hW; (repeat' (first | with_reducible exact Blk.new_ (by first | rfl | (simp; done) | (simp; omega)) | with_reducible refine Blk.alloc_ ?_ | with_reducible refine Blk.drew ?_ | with_reducible refine Blk.drewN ?_ _ | with_reducible refine Blk.far_ ?_ (by first | (simp; done) | (simp; omega) | omega) | with_reducible apply Blk.set_eq | rfl))
    clear hW
    refine (cT.out W).mono ?_
    rintro e w1 ⟨rfl, hb1⟩
    have C2 := hide (C1.trans (Chg.of_below (S := []) hb1) (by simp))
    have KX1 := KX.chg (Chg.of_below (S := []) hb1) (by simp)
    have KR1 := KR.chg (Chg.of_below (S := []) hb1) (by simp)
    have HR := hide KR1
    have k0 := KX1.cell 0; have k1 := KX1.cell 1; have k2 := KX1.cell 2; have k3 := KX1.cell 3; have k4 := KX1.cell 4; simp at k0 k1 k2 k3 k4
    have r0 := KR1.cell 0; have r1 := KR1.cell 1; have r2 := KR1.cell 2; have r3 := KR1.cell 3; have r4 := KR1.cell 4; simp at r0 r1 r2 r3 r4
    have z0 := KR1.frozen 0; have z1 := KR1.frozen 1; have z2 := KR1.frozen 2; have z3 := KR1.frozen 3; have z4 := KR1.frozen 4
    have l1 := KR1.lt
    have lX := KX1.lt
    clear KX KR KX1 KR1 hb1 C1
    go_wp2_with fail
    refine name_postO fun W hW => ?_
    have C3 : Chg [w.heap.size + 2] w1 W := by subst hW; (repeat' (first | with_reducible exact Chg.refl _ _ | with_reducible refine Chg.alloc ?_ _ | with_reducible refine Chg.drew ?_ | with_reducible refine Chg.drewN ?_ _ | with_reducible refine Chg.set_ ?_ _ _ (by first | (simp; done) | (simp; omega) | omega)))
    have K2 : Blk W (w.heap.size + 2) 26 (vCells k i s a n c a2 n2 c2) := by subst hW; (repeat' (first | with_reducible exact HR.out | with_reducible exact Blk.new_ (by first | rfl | (simp; done) | (simp; omega)) | with_reducible refine Blk.alloc_ ?_ | with_reducible refine Blk.drew ?_ | with_reducible refine Blk.drewN ?_ _ | with_reducible refine Blk.far_ ?_ (by first | (simp; done) | (simp; omega) | omega) | with_reducible apply Blk.set_eq | rfl))
    clear k0 k1 k2 k3 k4 r0 r1 r2 r3 r4 z0 z1 z2 z3 z4
    have k0 := K2.cell 0; have k1 := K2.cell 1; have k2 := K2.cell 2; have k3 := K2.cell 3; have k4 := K2.cell 4; simp at k0 k1 k2 k3 k4
    clear hW K2
    simp [bodyPost, results, Tryz.results47, go_sem, k0, k1, k2, k3, k4]
    exact ((C2.out.mono (S' := [w.heap.size + 2]) (by simp)).trans C3 (by simp) |>.mono (S' := []) (by intro x hx; simp at hx; subst hx; exact .inr (by omega))).bel
  | false =>
    show Calls Tryz.prog 47 _ w fun e w' => e = .returned (.tuple #[.agg (vCells K I S A1 N Cp A3 N2 Cq), .int .i64 0]) ∧ Below w.heap.size w w'
    go_enter Tryz.func47, Tryz.ntmps47
    go_wp2_with fail
    refine name_world fun W hW => ?_
    have C1 : Chg [] w W := by subst hW; (repeat' (first | with_reducible exact Chg.refl _ _ | with_reducible refine Chg.alloc ?_ _ | with_reducible refine Chg.drew ?_ | with_reducible refine Chg.drewN ?_ _ | with_reducible refine Chg.set_ ?_ _ _ (by first | (simp; done) | (simp; omega) | omega)))
    have KX : Blk W (w.heap.size + 1) 26 (vCells K I S A1 N Cp A3 N2 Cq) := by subst hW; (repeat' (first | with_reducible exact Blk.new_ (by first | rfl | (simp; done) | (simp; omega)) | with_reducible refine Blk.alloc_ ?_ | with_reducible refine Blk.drew ?_ | with_reducible refine Blk.drewN ?_ _ | with_reducible refine Blk.far_ ?_ (by first | (simp; done) | (simp; omega) | omega) | with_reducible apply Blk.set_eq | rfl))
    have KR : Blk W (w.heap.size + 2) 26 (vCells 0 0 ⟨#[]⟩ none 0 0 none 0 0) := by subst hW; (repeat' (first | with_reducible exact Blk.new_ (by first | rfl | (simp; done) | (simp; omega)) | with_reducible refine Blk.alloc_ ?_ | with_reducible refine Blk.drew ?_ | with_reducible refine Blk.drewN ?_ _ | with_reducible refine Blk.far_ ?_ (by first | (simp; done) | (simp; omega) | omega) | with_reducible apply Blk.set_eq | rfl))
    clear hW
    refine (cT.out W).mono ?_
    rintro e w1 ⟨rfl, hb1⟩
    have C2 := hide (C1.trans (Chg.of_below (S := []) hb1) (by simp))
    have KX1 := KX.chg (Chg.of_below (S := []) hb1) (by simp)
    have KR1 := KR.chg (Chg.of_below (S := []) hb1) (by simp)
    have HR := hide KR1
    have k0 := KX1.cell 0; have k1 := KX1.cell 1; have k2 := KX1.cell 2; have k3 := KX1.cell 3; have k4 := KX1.cell 4; simp at k0 k1 k2 k3 k4
    have r0 := KR1.cell 0; have r1 := KR1.cell 1; have r2 := KR1.cell 2; have r3 := KR1.cell 3; have r4 := KR1.cell 4; simp at r0 r1 r2 r3 r4
    have z0 := KR1.frozen 0; have z1 := KR1.frozen 1; have z2 := KR1.frozen 2; have z3 := KR1.frozen 3; have z4 := KR1.frozen 4
    have l1 := KR1.lt
    have lX := KX1.lt
    clear KX KR KX1 KR1 hb1 C1
    go_wp2_with fail
    refine name_postO fun W hW => ?_
    have C3 : Chg [w.heap.size + 2] w1 W := by subst hW; (repeat' (first | with_reducible exact Chg.refl _ _ | with_reducible refine Chg.alloc ?_ _ | with_reducible refine Chg.drew ?_ | with_reducible refine Chg.drewN ?_ _ | with_reducible refine Chg.set_ ?_ _ _ (by first | (simp; done) | (simp; omega) | omega)))
    have K2 : Blk W (w.heap.size + 2) 26 (vCells K I S A1 N Cp A3 N2 Cq) := by subst hW; (repeat' (first | with_reducible exact HR.out | with_reducible exact Blk.new_ (by first | rfl | (simp; done) | (simp; omega)) | with_reducible refine Blk.alloc_ ?_ | with_reducible refine Blk.drew ?_ | with_reducible refine Blk.drewN ?_ _ | with_reducible refine Blk.far_ ?_ (by first | (simp; done) | (simp; omega) | omega) | with_reducible apply Blk.set_eq | rfl))
    clear k0 k1 k2 k3 k4 r0 r1 r2 r3 r4 z0 z1 z2 z3 z4
    have k0 := K2.cell 0; have k1 := K2.cell 1; have k2 := K2.cell 2; have k3 := K2.cell 3; have k4 := K2.cell 4; simp at k0 k1 k2 k3 k4
    clear hW K2
    simp [bodyPost, results, Tryz.results47, go_sem, k0, k1, k2, k3, k4]
    exact ((C2.out.mono (S' := [w.heap.size + 2]) (by simp)).trans C3 (by simp) |>.mono (S' := []) (by intro x hx; simp at hx; subst hx; exact .inr (by omega))).bel
end Go.Proofs.YtnepogddjinpoaaGreatDoor

namespace Go.Proofs.YtnepogddjinpoaaGreatDoor
open Go.RowKit
set_option linter.unusedVariables false
set_option linter.unusedSimpArgs false

set_option maxHeartbeats 1000000 in
set_option maxRecDepth 100000 in
theorem cTwo_default (k i : Int) (s : ByteArray) (a : Option Addr) (n c : Nat) (a2 : Option Addr) (n2 c2 : Nat) (K I : Int) (S : ByteArray) (A1 : Option Addr) (N Cp : Nat) (A3 : Option Addr) (N2 Cq : Nat) (w : World) (b : Bool) (hb : truthC K I S N = b) :
    Calls Tryz.prog 47 #[.string ⟨#[100, 101, 102, 97, 117, 108, 116]⟩, .agg (vCells k i s a n c a2 n2 c2), .agg (vCells K I S A1 N Cp A3 N2 Cq)] w fun e w' => e = .returned (.tuple #[.agg (if b then vCells K I S A1 N Cp A3 N2 Cq else vCells k i s a n c a2 n2 c2), .int .i64 0]) ∧ Below w.heap.size w w' := by
  have e_eq : ((⟨#[100, 101, 102, 97, 117, 108, 116]⟩ : ByteArray) == ⟨#[101, 113]⟩) = false := by decide +kernel
  have e_lt : ((⟨#[100, 101, 102, 97, 117, 108, 116]⟩ : ByteArray) == ⟨#[108, 116]⟩) = false := by decide +kernel
  have e_and : ((⟨#[100, 101, 102, 97, 117, 108, 116]⟩ : ByteArray) == ⟨#[97, 110, 100]⟩) = false := by decide +kernel
  have e_or : ((⟨#[100, 101, 102, 97, 117, 108, 116]⟩ : ByteArray) == ⟨#[111, 114]⟩) = false := by decide +kernel
  have cT := hide (fun W => cValTruth k i s a n c a2 n2 c2 W)
  have cU := hide (fun W => cValTruth K I S A1 N Cp A3 N2 Cq W)
  obtain ⟨q, hq⟩ : ∃ q, truthC k i s n = q := ⟨_, rfl⟩
  rw [hb] at cU
  rw [hq] at cT
  clear hb hq
  cases b with
  | true =>
    show Calls Tryz.prog 47 _ w fun e w' => e = .returned (.tuple #[.agg (vCells K I S A1 N Cp A3 N2 Cq), .int .i64 0]) ∧ Below w.heap.size w w'
    go_enter Tryz.func47, Tryz.ntmps47
    go_wp2_with fail
    refine name_world fun W hW => ?_
    have C1 : Chg [] w W := by subst hW; (repeat' (first | with_reducible exact Chg.refl _ _ | with_reducible refine Chg.alloc ?_ _ | with_reducible refine Chg.drew ?_ | with_reducible refine Chg.drewN ?_ _ | with_reducible refine Chg.set_ ?_ _ _ (by first | (simp; done) | (simp; omega) | omega)))
    have KA : Blk W w.heap.size 26 (vCells k i s a n c a2 n2 c2) := by subst hW; (repeat' (first | with_reducible exact Blk.new_ (by first | rfl | (simp; done) | (simp; omega)) | with_reducible refine Blk.alloc_ ?_ | with_reducible refine Blk.drew ?_ | with_reducible refine Blk.drewN ?_ _ | with_reducible refine Blk.far_ ?_ (by first | (simp; done) | (simp; omega) | omega) | with_reducible apply Blk.set_eq | rfl))
    have KB : Blk W (w.heap.size + 1) 26 (vCells K I S A1 N Cp A3 N2 Cq) := by subst hW; (repeat' (first | with_reducible exact Blk.new_ (by first | rfl | (simp; done) | (simp; omega)) | with_reducible refine Blk.alloc_ ?_ | with_reducible refine Blk.drew ?_ | with_reducible refine Blk.drewN ?_ _ | with_reducible refine Blk.far_ ?_ (by first | (simp; done) | (simp; omega) | omega) | with_reducible apply Blk.set_eq | rfl))
    have KR : Blk W (w.heap.size + 2) 26 (vCells 0 0 ⟨#[]⟩ none 0 0 none 0 0) := by subst hW; (repeat' (first | with_reducible exact Blk.new_ (by first | rfl | (simp; done) | (simp; omega)) | with_reducible refine Blk.alloc_ ?_ | with_reducible refine Blk.drew ?_ | with_reducible refine Blk.drewN ?_ _ | with_reducible refine Blk.far_ ?_ (by first | (simp; done) | (simp; omega) | omega) | with_reducible apply Blk.set_eq | rfl))
    clear hW
    refine (cT.out W).mono ?_
    rintro e w1 ⟨rfl, hb1⟩
    have C2 := C1.trans (Chg.of_below (S := []) hb1) (by simp)
    have KA := KA.chg (Chg.of_below (S := []) hb1) (by simp)
    have KB := KB.chg (Chg.of_below (S := []) hb1) (by simp)
    have KR := KR.chg (Chg.of_below (S := []) hb1) (by simp)
    clear hb1 C1
    have k0 := KA.cell 0; have k1 := KA.cell 1; have k2 := KA.cell 2; have k3 := KA.cell 3; have k4 := KA.cell 4; simp at k0 k1 k2 k3 k4
    have j0 := KB.cell 0; have j1 := KB.cell 1; have j2 := KB.cell 2; have j3 := KB.cell 3; have j4 := KB.cell 4; simp at j0 j1 j2 j3 j4
    have lA := KA.lt; have lB := KB.lt
    go_wp2_with fail
    refine (cU.out w1).mono ?_
    rintro e w2 ⟨rfl, hb2⟩
    have C2 := C2.trans (Chg.of_below (S := []) hb2) (by simp)
    have KA := KA.chg (Chg.of_below (S := []) hb2) (by simp)
    have KB := KB.chg (Chg.of_below (S := []) hb2) (by simp)
    have KR := KR.chg (Chg.of_below (S := []) hb2) (by simp)
    clear hb2 k0 k1 k2 k3 k4 j0 j1 j2 j3 j4 lA lB
    have HC2 := hide C2
    have HR := hide KR
    have k0 := KA.cell 0; have k1 := KA.cell 1; have k2 := KA.cell 2; have k3 := KA.cell 3; have k4 := KA.cell 4; simp at k0 k1 k2 k3 k4
    have j0 := KB.cell 0; have j1 := KB.cell 1; have j2 := KB.cell 2; have j3 := KB.cell 3; have j4 := KB.cell 4; simp at j0 j1 j2 j3 j4
    have r0 := KR.cell 0; have r1 := KR.cell 1; have r2 := KR.cell 2; have r3 := KR.cell 3; have r4 := KR.cell 4; simp at r0 r1 r2 r3 r4
    have z0 := KR.frozen 0; have z1 := KR.frozen 1; have z2 := KR.frozen 2; have z3 := KR.frozen 3; have z4 := KR.frozen 4
    have lA := KA.lt; have lB := KB.lt; have lR := KR.lt
    clear KA KB KR C2
    go_wp2_with fail
    refine name_postO fun W hW => ?_
    have C3 : Chg [w.heap.size + 2] w2 W := by subst hW; (repeat' (first | with_reducible exact Chg.refl _ _ | with_reducible refine Chg.alloc ?_ _ | with_reducible refine Chg.drew ?_ | with_reducible refine Chg.drewN ?_ _ | with_reducible refine Chg.set_ ?_ _ _ (by first | (simp; done) | (simp; omega) | omega)))
    have K2 : Blk W (w.heap.size + 2) 26 (vCells K I S A1 N Cp A3 N2 Cq) := by subst hW; (repeat' (first | with_reducible exact HR.out | with_reducible exact Blk.new_ (by first | rfl | (simp; done) | (simp; omega)) | with_reducible refine Blk.alloc_ ?_ | with_reducible refine Blk.drew ?_ | with_reducible refine Blk.drewN ?_ _ | with_reducible refine Blk.far_ ?_ (by first | (simp; done) | (simp; omega) | omega) | with_reducible apply Blk.set_eq | rfl))
    clear k0 k1 k2 k3 k4 j0 j1 j2 j3 j4 r0 r1 r2 r3 r4 z0 z1 z2 z3 z4
    have k0 := K2.cell 0; have k1 := K2.cell 1; have k2 := K2.cell 2; have k3 := K2.cell 3; have k4 := K2.cell 4; simp at k0 k1 k2 k3 k4
    clear hW K2
    simp [bodyPost, results, Tryz.results47, go_sem, k0, k1, k2, k3, k4]
    exact ((HC2.out.mono (S' := [w.heap.size + 2]) (by simp)).trans C3 (by simp) |>.mono (S' := []) (by intro x hx; simp at hx; subst hx; exact .inr (by omega))).bel
  | false =>
    show Calls Tryz.prog 47 _ w fun e w' => e = .returned (.tuple #[.agg (vCells k i s a n c a2 n2 c2), .int .i64 0]) ∧ Below w.heap.size w w'
    go_enter Tryz.func47, Tryz.ntmps47
    go_wp2_with fail
    refine name_world fun W hW => ?_
    have C1 : Chg [] w W := by subst hW; (repeat' (first | with_reducible exact Chg.refl _ _ | with_reducible refine Chg.alloc ?_ _ | with_reducible refine Chg.drew ?_ | with_reducible refine Chg.drewN ?_ _ | with_reducible refine Chg.set_ ?_ _ _ (by first | (simp; done) | (simp; omega) | omega)))
    have KA : Blk W w.heap.size 26 (vCells k i s a n c a2 n2 c2) := by subst hW; (repeat' (first | with_reducible exact Blk.new_ (by first | rfl | (simp; done) | (simp; omega)) | with_reducible refine Blk.alloc_ ?_ | with_reducible refine Blk.drew ?_ | with_reducible refine Blk.drewN ?_ _ | with_reducible refine Blk.far_ ?_ (by first | (simp; done) | (simp; omega) | omega) | with_reducible apply Blk.set_eq | rfl))
    have KB : Blk W (w.heap.size + 1) 26 (vCells K I S A1 N Cp A3 N2 Cq) := by subst hW; (repeat' (first | with_reducible exact Blk.new_ (by first | rfl | (simp; done) | (simp; omega)) | with_reducible refine Blk.alloc_ ?_ | with_reducible refine Blk.drew ?_ | with_reducible refine Blk.drewN ?_ _ | with_reducible refine Blk.far_ ?_ (by first | (simp; done) | (simp; omega) | omega) | with_reducible apply Blk.set_eq | rfl))
    have KR : Blk W (w.heap.size + 2) 26 (vCells 0 0 ⟨#[]⟩ none 0 0 none 0 0) := by subst hW; (repeat' (first | with_reducible exact Blk.new_ (by first | rfl | (simp; done) | (simp; omega)) | with_reducible refine Blk.alloc_ ?_ | with_reducible refine Blk.drew ?_ | with_reducible refine Blk.drewN ?_ _ | with_reducible refine Blk.far_ ?_ (by first | (simp; done) | (simp; omega) | omega) | with_reducible apply Blk.set_eq | rfl))
    clear hW
    refine (cT.out W).mono ?_
    rintro e w1 ⟨rfl, hb1⟩
    have C2 := C1.trans (Chg.of_below (S := []) hb1) (by simp)
    have KA := KA.chg (Chg.of_below (S := []) hb1) (by simp)
    have KB := KB.chg (Chg.of_below (S := []) hb1) (by simp)
    have KR := KR.chg (Chg.of_below (S := []) hb1) (by simp)
    clear hb1 C1
    have k0 := KA.cell 0; have k1 := KA.cell 1; have k2 := KA.cell 2; have k3 := KA.cell 3; have k4 := KA.cell 4; simp at k0 k1 k2 k3 k4
    have j0 := KB.cell 0; have j1 := KB.cell 1; have j2 := KB.cell 2; have j3 := KB.cell 3; have j4 := KB.cell 4; simp at j0 j1 j2 j3 j4
    have lA := KA.lt; have lB := KB.lt
    go_wp2_with fail
    refine (cU.out w1).mono ?_
    rintro e w2 ⟨rfl, hb2⟩
    have C2 := C2.trans (Chg.of_below (S := []) hb2) (by simp)
    have KA := KA.chg (Chg.of_below (S := []) hb2) (by simp)
    have KB := KB.chg (Chg.of_below (S := []) hb2) (by simp)
    have KR := KR.chg (Chg.of_below (S := []) hb2) (by simp)
    clear hb2 k0 k1 k2 k3 k4 j0 j1 j2 j3 j4 lA lB
    have HC2 := hide C2
    have HR := hide KR
    have k0 := KA.cell 0; have k1 := KA.cell 1; have k2 := KA.cell 2; have k3 := KA.cell 3; have k4 := KA.cell 4; simp at k0 k1 k2 k3 k4
    have j0 := KB.cell 0; have j1 := KB.cell 1; have j2 := KB.cell 2; have j3 := KB.cell 3; have j4 := KB.cell 4; simp at j0 j1 j2 j3 j4
    have r0 := KR.cell 0; have r1 := KR.cell 1; have r2 := KR.cell 2; have r3 := KR.cell 3; have r4 := KR.cell 4; simp at r0 r1 r2 r3 r4
    have z0 := KR.frozen 0; have z1 := KR.frozen 1; have z2 := KR.frozen 2; have z3 := KR.frozen 3; have z4 := KR.frozen 4
    have lA := KA.lt; have lB := KB.lt; have lR := KR.lt
    clear KA KB KR C2
    go_wp2_with fail
    refine name_postO fun W hW => ?_
    have C3 : Chg [w.heap.size + 2] w2 W := by subst hW; (repeat' (first | with_reducible exact Chg.refl _ _ | with_reducible refine Chg.alloc ?_ _ | with_reducible refine Chg.drew ?_ | with_reducible refine Chg.drewN ?_ _ | with_reducible refine Chg.set_ ?_ _ _ (by first | (simp; done) | (simp; omega) | omega)))
    have K2 : Blk W (w.heap.size + 2) 26 (vCells k i s a n c a2 n2 c2) := by subst hW; (repeat' (first | with_reducible exact HR.out | with_reducible exact Blk.new_ (by first | rfl | (simp; done) | (simp; omega)) | with_reducible refine Blk.alloc_ ?_ | with_reducible refine Blk.drew ?_ | with_reducible refine Blk.drewN ?_ _ | with_reducible refine Blk.far_ ?_ (by first | (simp; done) | (simp; omega) | omega) | with_reducible apply Blk.set_eq | rfl))
    clear k0 k1 k2 k3 k4 j0 j1 j2 j3 j4 r0 r1 r2 r3 r4 z0 z1 z2 z3 z4
    have k0 := K2.cell 0; have k1 := K2.cell 1; have k2 := K2.cell 2; have k3 := K2.cell 3; have k4 := K2.cell 4; simp at k0 k1 k2 k3 k4
    clear hW K2
    simp [bodyPost, results, Tryz.results47, go_sem, k0, k1, k2, k3, k4]
    exact ((HC2.out.mono (S' := [w.heap.size + 2]) (by simp)).trans C3 (by simp) |>.mono (S' := []) (by intro x hx; simp at hx; subst hx; exact .inr (by omega))).bel
set_option maxHeartbeats 1000000 in
set_option maxRecDepth 100000 in
theorem cTwo_lt_num (i : Int) (s : ByteArray) (a : Option Addr) (n c : Nat) (a2 : Option Addr) (n2 c2 : Nat) (I : Int) (S : ByteArray) (A1 : Option Addr) (N Cp : Nat) (A3 : Option Addr) (N2 Cq : Nat) (w : World) :
    Calls Tryz.prog 47 #[.string ⟨#[108, 116]⟩, .agg (vCells 3 i s a n c a2 n2 c2), .agg (vCells 3 I S A1 N Cp A3 N2 Cq)] w fun e w' => e = .returned (.tuple #[vFlat (if decide (i < I) then 2 else 1) 0 ⟨#[]⟩, .int .i64 0]) ∧ Below w.heap.size w w' := by
  have e_eq : ((⟨#[108, 116]⟩ : ByteArray) == ⟨#[101, 113]⟩) = false := by decide +kernel
  have cR := hide (fun W => cTruth (decide (i < I)) W)
  obtain ⟨kk, hkk⟩ : ∃ kk : Int, (if decide (i < I) then (2 : Int) else 1) = kk := ⟨_, rfl⟩
  rw [hkk]
  rw [hkk] at cR
  clear hkk
  have cT := hide (fun W => cValTruth 3 i s a n c a2 n2 c2 W)
  obtain ⟨q, hq⟩ : ∃ q, truthC 3 i s n = q := ⟨_, rfl⟩
  rw [hq] at cT
  clear hq
  go_enter Tryz.func47, Tryz.ntmps47
  go_wp2_with fail
  refine name_world fun W hW => ?_
  have C1 : Chg [] w W := by subst hW; (repeat' (first | with_reducible exact Chg.refl _ _ | with_reducible refine Chg.alloc ?_ _ | with_reducible refine Chg.drew ?_ | with_reducible refine Chg.drewN ?_ _ | with_reducible refine Chg.set_ ?_ _ _ (by first | (simp; done) | (simp; omega) | omega)))
  have KA : Blk W w.heap.size 26 (vCells 3 i s a n c a2 n2 c2) := by subst hW; (repeat' (first | with_reducible exact Blk.new_ (by first | rfl | (simp; done) | (simp; omega)) | with_reducible refine Blk.alloc_ ?_ | with_reducible refine Blk.drew ?_ | with_reducible refine Blk.drewN ?_ _ | with_reducible refine Blk.far_ ?_ (by first | (simp; done) | (simp; omega) | omega) | with_reducible apply Blk.set_eq | rfl))
  have KB : Blk W (w.heap.size + 1) 26 (vCells 3 I S A1 N Cp A3 N2 Cq) := by subst hW; (repeat' (first | with_reducible exact Blk.new_ (by first | rfl | (simp; done) | (simp; omega)) | with_reducible refine Blk.alloc_ ?_ | with_reducible refine Blk.drew ?_ | with_reducible refine Blk.drewN ?_ _ | with_reducible refine Blk.far_ ?_ (by first | (simp; done) | (simp; omega) | omega) | with_reducible apply Blk.set_eq | rfl))
  have KR : Blk W (w.heap.size + 2) 26 (vCells 0 0 ⟨#[]⟩ none 0 0 none 0 0) := by subst hW; (repeat' (first | with_reducible exact Blk.new_ (by first | rfl | (simp; done) | (simp; omega)) | with_reducible refine Blk.alloc_ ?_ | with_reducible refine Blk.drew ?_ | with_reducible refine Blk.drewN ?_ _ | with_reducible refine Blk.far_ ?_ (by first | (simp; done) | (simp; omega) | omega) | with_reducible apply Blk.set_eq | rfl))
  clear hW
  refine (cT.out W).mono ?_
  rintro e w1 ⟨rfl, hb1⟩
  have C2 := C1.trans (Chg.of_below (S := []) hb1) (by simp)
  have KA := KA.chg (Chg.of_below (S := []) hb1) (by simp)
  have KB := KB.chg (Chg.of_below (S := []) hb1) (by simp)
  have KR := KR.chg (Chg.of_below (S := []) hb1) (by simp)
  clear hb1 C1
  have k0 := KA.cell 0; have k1 := KA.cell 1; have k2 := KA.cell 2; have k3 := KA.cell 3; have k4 := KA.cell 4; simp at k0 k1 k2 k3 k4
  have j0 := KB.cell 0; have j1 := KB.cell 1; have j2 := KB.cell 2; have j3 := KB.cell 3; have j4 := KB.cell 4; simp at j0 j1 j2 j3 j4
  have lA := KA.lt; have lB := KB.lt
  go_wp2_with fail
  refine (cR.out w1).mono ?_
  rintro e w2 ⟨rfl, hb2⟩
  have C2 := C2.trans (Chg.of_below (S := []) hb2) (by simp)
  have KA := KA.chg (Chg.of_below (S := []) hb2) (by simp)
  have KB := KB.chg (Chg.of_below (S := []) hb2) (by simp)
  have KR := KR.chg (Chg.of_below (S := []) hb2) (by simp)
  clear hb2 k0 k1 k2 k3 k4 j0 j1 j2 j3 j4 lA lB
  have HC2 := hide C2
  have HR := hide KR
  have k0 := KA.cell 0; have k1 := KA.cell 1; have k2 := KA.cell 2; have k3 := KA.cell 3; have k4 := KA.cell 4; simp at k0 k1 k2 k3 k4
  have j0 := KB.cell 0; have j1 := KB.cell 1; have j2 := KB.cell 2; have j3 := KB.cell 3; have j4 := KB.cell 4; simp at j0 j1 j2 j3 j4
  have r0 := KR.cell 0; have r1 := KR.cell 1; have r2 := KR.cell 2; have r3 := KR.cell 3; have r4 := KR.cell 4; simp at r0 r1 r2 r3 r4
  have z0 := KR.frozen 0; have z1 := KR.frozen 1; have z2 := KR.frozen 2; have z3 := KR.frozen 3; have z4 := KR.frozen 4
  have lA := KA.lt; have lB := KB.lt; have lR := KR.lt
  clear KA KB KR C2
  go_wp2_with fail
  refine name_postO fun W hW => ?_
  have C3 : Chg [w.heap.size + 2] w2 W := by subst hW; (repeat' (first | with_reducible exact Chg.refl _ _ | with_reducible refine Chg.alloc ?_ _ | with_reducible refine Chg.drew ?_ | with_reducible refine Chg.drewN ?_ _ | with_reducible refine Chg.set_ ?_ _ _ (by first | (simp; done) | (simp; omega) | omega)))
  have K2 : Blk W (w.heap.size + 2) 26 (vCells kk 0 ⟨#[]⟩ none 0 0 none 0 0) := by subst hW; (repeat' (first | with_reducible exact HR.out | with_reducible exact Blk.new_ (by first | rfl | (simp; done) | (simp; omega)) | with_reducible refine Blk.alloc_ ?_ | with_reducible refine Blk.drew ?_ | with_reducible refine Blk.drewN ?_ _ | with_reducible refine Blk.far_ ?_ (by first | (simp; done) | (simp; omega) | omega) | with_reducible apply Blk.set_eq | rfl))
  clear k0 k1 k2 k3 k4 j0 j1 j2 j3 j4 r0 r1 r2 r3 r4 z0 z1 z2 z3 z4
  have k0 := K2.cell 0; have k1 := K2.cell 1; have k2 := K2.cell 2; have k3 := K2.cell 3; have k4 := K2.cell 4; simp at k0 k1 k2 k3 k4
  clear hW K2
  simp [bodyPost, results, Tryz.results47, go_sem, k0, k1, k2, k3, k4]
  exact ((HC2.out.mono (S' := [w.heap.size + 2]) (by simp)).trans C3 (by simp) |>.mono (S' := []) (by intro x hx; simp at hx; subst hx; exact .inr (by omega))).bel
set_option maxHeartbeats 1000000 in
set_option maxRecDepth 100000 in
theorem cTwo_lt_text (i : Int) (s : ByteArray) (a : Option Addr) (n c : Nat) (a2 : Option Addr) (n2 c2 : Nat) (I : Int) (S : ByteArray) (A1 : Option Addr) (N Cp : Nat) (A3 : Option Addr) (N2 Cq : Nat) (w : World) :
    Calls Tryz.prog 47 #[.string ⟨#[108, 116]⟩, .agg (vCells 4 i s a n c a2 n2 c2), .agg (vCells 4 I S A1 N Cp A3 N2 Cq)] w fun e w' => e = .returned (.tuple #[vFlat (if Op.bytesLess s.toList S.toList then 2 else 1) 0 ⟨#[]⟩, .int .i64 0]) ∧ Below w.heap.size w w' := by
  have e_eq : ((⟨#[108, 116]⟩ : ByteArray) == ⟨#[101, 113]⟩) = false := by decide +kernel
  have cR := hide (fun W => cTruth (Op.bytesLess s.toList S.toList) W)
  obtain ⟨kk, hkk⟩ : ∃ kk : Int, (if Op.bytesLess s.toList S.toList then (2 : Int) else 1) = kk := ⟨_, rfl⟩
  rw [hkk]
  rw [hkk] at cR
  clear hkk
  have cT := hide (fun W => cValTruth 4 i s a n c a2 n2 c2 W)
  obtain ⟨q, hq⟩ : ∃ q, truthC 4 i s n = q := ⟨_, rfl⟩
  rw [hq] at cT
  clear hq
  go_enter Tryz.func47, Tryz.ntmps47
  go_wp2_with fail
  refine name_world fun W hW => ?_
  have C1 : Chg [] w W := by subst hW; (repeat' (first | with_reducible exact Chg.refl _ _ | with_reducible refine Chg.alloc ?_ _ | with_reducible refine Chg.drew ?_ | with_reducible refine Chg.drewN ?_ _ | with_reducible refine Chg.set_ ?_ _ _ (by first | (simp; done) | (simp; omega) | omega)))
  have KA : Blk W w.heap.size 26 (vCells 4 i s a n c a2 n2 c2) := by subst hW; (repeat' (first | with_reducible exact Blk.new_ (by first | rfl | (simp; done) | (simp; omega)) | with_reducible refine Blk.alloc_ ?_ | with_reducible refine Blk.drew ?_ | with_reducible refine Blk.drewN ?_ _ | with_reducible refine Blk.far_ ?_ (by first | (simp; done) | (simp; omega) | omega) | with_reducible apply Blk.set_eq | rfl))
  have KB : Blk W (w.heap.size + 1) 26 (vCells 4 I S A1 N Cp A3 N2 Cq) := by subst hW; (repeat' (first | with_reducible exact Blk.new_ (by first | rfl | (simp; done) | (simp; omega)) | with_reducible refine Blk.alloc_ ?_ | with_reducible refine Blk.drew ?_ | with_reducible refine Blk.drewN ?_ _ | with_reducible refine Blk.far_ ?_ (by first | (simp; done) | (simp; omega) | omega) | with_reducible apply Blk.set_eq | rfl))
  have KR : Blk W (w.heap.size + 2) 26 (vCells 0 0 ⟨#[]⟩ none 0 0 none 0 0) := by subst hW; (repeat' (first | with_reducible exact Blk.new_ (by first | rfl | (simp; done) | (simp; omega)) | with_reducible refine Blk.alloc_ ?_ | with_reducible refine Blk.drew ?_ | with_reducible refine Blk.drewN ?_ _ | with_reducible refine Blk.far_ ?_ (by first | (simp; done) | (simp; omega) | omega) | with_reducible apply Blk.set_eq | rfl))
  clear hW
  refine (cT.out W).mono ?_
  rintro e w1 ⟨rfl, hb1⟩
  have C2 := C1.trans (Chg.of_below (S := []) hb1) (by simp)
  have KA := KA.chg (Chg.of_below (S := []) hb1) (by simp)
  have KB := KB.chg (Chg.of_below (S := []) hb1) (by simp)
  have KR := KR.chg (Chg.of_below (S := []) hb1) (by simp)
  clear hb1 C1
  have k0 := KA.cell 0; have k1 := KA.cell 1; have k2 := KA.cell 2; have k3 := KA.cell 3; have k4 := KA.cell 4; simp at k0 k1 k2 k3 k4
  have j0 := KB.cell 0; have j1 := KB.cell 1; have j2 := KB.cell 2; have j3 := KB.cell 3; have j4 := KB.cell 4; simp at j0 j1 j2 j3 j4
  have lA := KA.lt; have lB := KB.lt
  go_wp2_with fail
  refine (cR.out w1).mono ?_
  rintro e w2 ⟨rfl, hb2⟩
  have C2 := C2.trans (Chg.of_below (S := []) hb2) (by simp)
  have KA := KA.chg (Chg.of_below (S := []) hb2) (by simp)
  have KB := KB.chg (Chg.of_below (S := []) hb2) (by simp)
  have KR := KR.chg (Chg.of_below (S := []) hb2) (by simp)
  clear hb2 k0 k1 k2 k3 k4 j0 j1 j2 j3 j4 lA lB
  have HC2 := hide C2
  have HR := hide KR
  have k0 := KA.cell 0; have k1 := KA.cell 1; have k2 := KA.cell 2; have k3 := KA.cell 3; have k4 := KA.cell 4; simp at k0 k1 k2 k3 k4
  have j0 := KB.cell 0; have j1 := KB.cell 1; have j2 := KB.cell 2; have j3 := KB.cell 3; have j4 := KB.cell 4; simp at j0 j1 j2 j3 j4
  have r0 := KR.cell 0; have r1 := KR.cell 1; have r2 := KR.cell 2; have r3 := KR.cell 3; have r4 := KR.cell 4; simp at r0 r1 r2 r3 r4
  have z0 := KR.frozen 0; have z1 := KR.frozen 1; have z2 := KR.frozen 2; have z3 := KR.frozen 3; have z4 := KR.frozen 4
  have lA := KA.lt; have lB := KB.lt; have lR := KR.lt
  clear KA KB KR C2
  go_wp2_with fail
  refine name_postO fun W hW => ?_
  have C3 : Chg [w.heap.size + 2] w2 W := by subst hW; (repeat' (first | with_reducible exact Chg.refl _ _ | with_reducible refine Chg.alloc ?_ _ | with_reducible refine Chg.drew ?_ | with_reducible refine Chg.drewN ?_ _ | with_reducible refine Chg.set_ ?_ _ _ (by first | (simp; done) | (simp; omega) | omega)))
  have K2 : Blk W (w.heap.size + 2) 26 (vCells kk 0 ⟨#[]⟩ none 0 0 none 0 0) := by subst hW; (repeat' (first | with_reducible exact HR.out | with_reducible exact Blk.new_ (by first | rfl | (simp; done) | (simp; omega)) | with_reducible refine Blk.alloc_ ?_ | with_reducible refine Blk.drew ?_ | with_reducible refine Blk.drewN ?_ _ | with_reducible refine Blk.far_ ?_ (by first | (simp; done) | (simp; omega) | omega) | with_reducible apply Blk.set_eq | rfl))
  clear k0 k1 k2 k3 k4 j0 j1 j2 j3 j4 r0 r1 r2 r3 r4 z0 z1 z2 z3 z4
  have k0 := K2.cell 0; have k1 := K2.cell 1; have k2 := K2.cell 2; have k3 := K2.cell 3; have k4 := K2.cell 4; simp at k0 k1 k2 k3 k4
  clear hW K2
  simp [bodyPost, results, Tryz.results47, go_sem, k0, k1, k2, k3, k4]
  exact ((HC2.out.mono (S' := [w.heap.size + 2]) (by simp)).trans C3 (by simp) |>.mono (S' := []) (by intro x hx; simp at hx; subst hx; exact .inr (by omega))).bel
end Go.Proofs.YtnepogddjinpoaaGreatDoor

namespace Go.Proofs.YtnepogddjinpoaaGreatDoor
open Go.RowKit
set_option linter.unusedVariables false
set_option linter.unusedSimpArgs false

set_option maxHeartbeats 1000000 in
set_option maxRecDepth 100000 in
theorem cTwo_lt_odd3 (i : Int) (s : ByteArray) (a : Option Addr) (n c : Nat) (a2 : Option Addr) (n2 c2 : Nat) (K I : Int) (S : ByteArray) (A1 : Option Addr) (N Cp : Nat) (A3 : Option Addr) (N2 Cq : Nat) (w : World) (hK : ¬ K = 3) :
    Calls Tryz.prog 47 #[.string ⟨#[108, 116]⟩, .agg (vCells 3 i s a n c a2 n2 c2), .agg (vCells K I S A1 N Cp A3 N2 Cq)] w fun e w' => e = .returned (.tuple #[vFlat 0 0 ⟨#[]⟩, .int .i64 13]) ∧ Below w.heap.size w w' := by
  have e_eq : ((⟨#[108, 116]⟩ : ByteArray) == ⟨#[101, 113]⟩) = false := by decide +kernel
  have e2 : (K == 3) = false := by simpa using hK
  have cT := hide (fun W => cValTruth 3 i s a n c a2 n2 c2 W)
  obtain ⟨q, hq⟩ : ∃ q, truthC 3 i s n = q := ⟨_, rfl⟩
  rw [hq] at cT
  clear hq
  go_enter Tryz.func47, Tryz.ntmps47
  go_wp2_with fail
  refine name_world fun W hW => ?_
  have C1 : Chg [] w W := by subst hW; (repeat' (first | with_reducible exact Chg.refl _ _ | with_reducible refine Chg.alloc ?_ _ | with_reducible refine Chg.drew ?_ | with_reducible refine Chg.drewN ?_ _ | with_reducible refine Chg.set_ ?_ _ _ (by first | (simp; done) | (simp; omega) | omega)))
  have KA : Blk W w.heap.size 26 (vCells 3 i s a n c a2 n2 c2) := by subst hW; (repeat' (first | with_reducible exact Blk.new_ (by first | rfl | (simp; done) | (simp; omega)) | with_reducible refine Blk.alloc_ ?_ | with_reducible refine Blk.drew ?_ | with_reducible refine Blk.drewN ?_ _ | with_reducible refine Blk.far_ ?_ (by first | (simp; done) | (simp; omega) | omega) | with_reducible apply Blk.set_eq | rfl))
  have KB : Blk W (w.heap.size + 1) 26 (vCells K I S A1 N Cp A3 N2 Cq) := by subst hW; (repeat' (first | with_reducible exact Blk.new_ (by first | rfl | (simp; done) | (simp; omega)) | with_reducible refine Blk.alloc_ ?_ | with_reducible refine Blk.drew ?_ | with_reducible refine Blk.drewN ?_ _ | with_reducible refine Blk.far_ ?_ (by first | (simp; done) | (simp; omega) | omega) | with_reducible apply Blk.set_eq | rfl))
  have KR : Blk W (w.heap.size + 2) 26 (vCells 0 0 ⟨#[]⟩ none 0 0 none 0 0) := by subst hW; (repeat' (first | with_reducible exact Blk.new_ (by first | rfl | (simp; done) | (simp; omega)) | with_reducible refine Blk.alloc_ ?_ | with_reducible refine Blk.drew ?_ | with_reducible refine Blk.drewN ?_ _ | with_reducible refine Blk.far_ ?_ (by first | (simp; done) | (simp; omega) | omega) | with_reducible apply Blk.set_eq | rfl))
  clear hW
  refine (cT.out W).mono ?_
  rintro e w1 ⟨rfl, hb1⟩
  have C2 := C1.trans (Chg.of_below (S := []) hb1) (by simp)
  have KA := KA.chg (Chg.of_below (S := []) hb1) (by simp)
  have KB := KB.chg (Chg.of_below (S := []) hb1) (by simp)
  have KR := KR.chg (Chg.of_below (S := []) hb1) (by simp)
  clear hb1 C1
  have HC2 := hide C2
  have HR := hide KR
  have k0 := KA.cell 0; have k1 := KA.cell 1; have k2 := KA.cell 2; have k3 := KA.cell 3; have k4 := KA.cell 4; simp at k0 k1 k2 k3 k4
  have j0 := KB.cell 0; have j1 := KB.cell 1; have j2 := KB.cell 2; have j3 := KB.cell 3; have j4 := KB.cell 4; simp at j0 j1 j2 j3 j4
  have r0 := KR.cell 0; have r1 := KR.cell 1; have r2 := KR.cell 2; have r3 := KR.cell 3; have r4 := KR.cell 4; simp at r0 r1 r2 r3 r4
  have z0 := KR.frozen 0; have z1 := KR.frozen 1; have z2 := KR.frozen 2; have z3 := KR.frozen 3; have z4 := KR.frozen 4
  have lA := KA.lt; have lB := KB.lt; have lR := KR.lt
  clear KA KB KR C2
  go_wp2_with fail
  refine name_postO fun W hW => ?_
  have C3 : Chg [w.heap.size + 2] w1 W := by subst hW; (repeat' (first | with_reducible exact Chg.refl _ _ | with_reducible refine Chg.alloc ?_ _ | with_reducible refine Chg.drew ?_ | with_reducible refine Chg.drewN ?_ _ | with_reducible refine Chg.set_ ?_ _ _ (by first | (simp; done) | (simp; omega) | omega)))
  have K2 : Blk W (w.heap.size + 2) 26 (vCells 0 0 ⟨#[]⟩ none 0 0 none 0 0) := by subst hW; (repeat' (first | with_reducible exact HR.out | with_reducible exact Blk.new_ (by first | rfl | (simp; done) | (simp; omega)) | with_reducible refine Blk.alloc_ ?_ | with_reducible refine Blk.drew ?_ | with_reducible refine Blk.drewN ?_ _ | with_reducible refine Blk.far_ ?_ (by first | (simp; done) | (simp; omega) | omega) | with_reducible apply Blk.set_eq | rfl))
  clear k0 k1 k2 k3 k4 j0 j1 j2 j3 j4 r0 r1 r2 r3 r4 z0 z1 z2 z3 z4
  have k0 := K2.cell 0; have k1 := K2.cell 1; have k2 := K2.cell 2; have k3 := K2.cell 3; have k4 := K2.cell 4; simp at k0 k1 k2 k3 k4
  clear hW K2
  simp [bodyPost, results, Tryz.results47, go_sem, k0, k1, k2, k3, k4]
  exact ((HC2.out.mono (S' := [w.heap.size + 2]) (by simp)).trans C3 (by simp) |>.mono (S' := []) (by intro x hx; simp at hx; subst hx; exact .inr (by omega))).bel
set_option maxHeartbeats 1000000 in
set_option maxRecDepth 100000 in
theorem cTwo_lt_odd4 (i : Int) (s : ByteArray) (a : Option Addr) (n c : Nat) (a2 : Option Addr) (n2 c2 : Nat) (K I : Int) (S : ByteArray) (A1 : Option Addr) (N Cp : Nat) (A3 : Option Addr) (N2 Cq : Nat) (w : World) (hK : ¬ K = 4) :
    Calls Tryz.prog 47 #[.string ⟨#[108, 116]⟩, .agg (vCells 4 i s a n c a2 n2 c2), .agg (vCells K I S A1 N Cp A3 N2 Cq)] w fun e w' => e = .returned (.tuple #[vFlat 0 0 ⟨#[]⟩, .int .i64 13]) ∧ Below w.heap.size w w' := by
  have e_eq : ((⟨#[108, 116]⟩ : ByteArray) == ⟨#[101, 113]⟩) = false := by decide +kernel
  have e2 : (K == 4) = false := by simpa using hK
  have cT := hide (fun W => cValTruth 4 i s a n c a2 n2 c2 W)
  obtain ⟨q, hq⟩ : ∃ q, truthC 4 i s n = q := ⟨_, rfl⟩
  rw [hq] at cT
  clear hq
  go_enter Tryz.func47, Tryz.ntmps47
  go_wp2_with fail
  refine name_world fun W hW => ?_
  have C1 : Chg [] w W := by subst hW; (repeat' (first | with_reducible exact Chg.refl _ _ | with_reducible refine Chg.alloc ?_ _ | with_reducible refine Chg.drew ?_ | with_reducible refine Chg.drewN ?_ _ | with_reducible refine Chg.set_ ?_ _ _ (by first | (simp; done) | (simp; omega) | omega)))
  have KA : Blk W w.heap.size 26 (vCells 4 i s a n c a2 n2 c2) := by subst hW; (repeat' (first | with_reducible exact Blk.new_ (by first | rfl | (simp; done) | (simp; omega)) | with_reducible refine Blk.alloc_ ?_ | with_reducible refine Blk.drew ?_ | with_reducible refine Blk.drewN ?_ _ | with_reducible refine Blk.far_ ?_ (by first | (simp; done) | (simp; omega) | omega) | with_reducible apply Blk.set_eq | rfl))
  have KB : Blk W (w.heap.size + 1) 26 (vCells K I S A1 N Cp A3 N2 Cq) := by subst hW; (repeat' (first | with_reducible exact Blk.new_ (by first | rfl | (simp; done) | (simp; omega)) | with_reducible refine Blk.alloc_ ?_ | with_reducible refine Blk.drew ?_ | with_reducible refine Blk.drewN ?_ _ | with_reducible refine Blk.far_ ?_ (by first | (simp; done) | (simp; omega) | omega) | with_reducible apply Blk.set_eq | rfl))
  have KR : Blk W (w.heap.size + 2) 26 (vCells 0 0 ⟨#[]⟩ none 0 0 none 0 0) := by subst hW; (repeat' (first | with_reducible exact Blk.new_ (by first | rfl | (simp; done) | (simp; omega)) | with_reducible refine Blk.alloc_ ?_ | with_reducible refine Blk.drew ?_ | with_reducible refine Blk.drewN ?_ _ | with_reducible refine Blk.far_ ?_ (by first | (simp; done) | (simp; omega) | omega) | with_reducible apply Blk.set_eq | rfl))
  clear hW
  refine (cT.out W).mono ?_
  rintro e w1 ⟨rfl, hb1⟩
  have C2 := C1.trans (Chg.of_below (S := []) hb1) (by simp)
  have KA := KA.chg (Chg.of_below (S := []) hb1) (by simp)
  have KB := KB.chg (Chg.of_below (S := []) hb1) (by simp)
  have KR := KR.chg (Chg.of_below (S := []) hb1) (by simp)
  clear hb1 C1
  have HC2 := hide C2
  have HR := hide KR
  have k0 := KA.cell 0; have k1 := KA.cell 1; have k2 := KA.cell 2; have k3 := KA.cell 3; have k4 := KA.cell 4; simp at k0 k1 k2 k3 k4
  have j0 := KB.cell 0; have j1 := KB.cell 1; have j2 := KB.cell 2; have j3 := KB.cell 3; have j4 := KB.cell 4; simp at j0 j1 j2 j3 j4
  have r0 := KR.cell 0; have r1 := KR.cell 1; have r2 := KR.cell 2; have r3 := KR.cell 3; have r4 := KR.cell 4; simp at r0 r1 r2 r3 r4
  have z0 := KR.frozen 0; have z1 := KR.frozen 1; have z2 := KR.frozen 2; have z3 := KR.frozen 3; have z4 := KR.frozen 4
  have lA := KA.lt; have lB := KB.lt; have lR := KR.lt
  clear KA KB KR C2
  go_wp2_with fail
  refine name_postO fun W hW => ?_
  have C3 : Chg [w.heap.size + 2] w1 W := by subst hW; (repeat' (first | with_reducible exact Chg.refl _ _ | with_reducible refine Chg.alloc ?_ _ | with_reducible refine Chg.drew ?_ | with_reducible refine Chg.drewN ?_ _ | with_reducible refine Chg.set_ ?_ _ _ (by first | (simp; done) | (simp; omega) | omega)))
  have K2 : Blk W (w.heap.size + 2) 26 (vCells 0 0 ⟨#[]⟩ none 0 0 none 0 0) := by subst hW; (repeat' (first | with_reducible exact HR.out | with_reducible exact Blk.new_ (by first | rfl | (simp; done) | (simp; omega)) | with_reducible refine Blk.alloc_ ?_ | with_reducible refine Blk.drew ?_ | with_reducible refine Blk.drewN ?_ _ | with_reducible refine Blk.far_ ?_ (by first | (simp; done) | (simp; omega) | omega) | with_reducible apply Blk.set_eq | rfl))
  clear k0 k1 k2 k3 k4 j0 j1 j2 j3 j4 r0 r1 r2 r3 r4 z0 z1 z2 z3 z4
  have k0 := K2.cell 0; have k1 := K2.cell 1; have k2 := K2.cell 2; have k3 := K2.cell 3; have k4 := K2.cell 4; simp at k0 k1 k2 k3 k4
  clear hW K2
  simp [bodyPost, results, Tryz.results47, go_sem, k0, k1, k2, k3, k4]
  exact ((HC2.out.mono (S' := [w.heap.size + 2]) (by simp)).trans C3 (by simp) |>.mono (S' := []) (by intro x hx; simp at hx; subst hx; exact .inr (by omega))).bel
set_option maxHeartbeats 1000000 in
set_option maxRecDepth 100000 in
theorem cTwo_lt_odd (k i : Int) (s : ByteArray) (a : Option Addr) (n c : Nat) (a2 : Option Addr) (n2 c2 : Nat) (K I : Int) (S : ByteArray) (A1 : Option Addr) (N Cp : Nat) (A3 : Option Addr) (N2 Cq : Nat) (w : World) (h3 : ¬ k = 3) (h4 : ¬ k = 4) :
    Calls Tryz.prog 47 #[.string ⟨#[108, 116]⟩, .agg (vCells k i s a n c a2 n2 c2), .agg (vCells K I S A1 N Cp A3 N2 Cq)] w fun e w' => e = .returned (.tuple #[vFlat 0 0 ⟨#[]⟩, .int .i64 13]) ∧ Below w.heap.size w w' := by
  have e_eq : ((⟨#[108, 116]⟩ : ByteArray) == ⟨#[101, 113]⟩) = false := by decide +kernel
  have e0 : (k == 3) = false := by simpa using h3
  have e1 : (k == 4) = false := by simpa using h4
  have cT := hide (fun W => cValTruth k i s a n c a2 n2 c2 W)
  obtain ⟨q, hq⟩ : ∃ q, truthC k i s n = q := ⟨_, rfl⟩
  rw [hq] at cT
  clear hq
  go_enter Tryz.func47, Tryz.ntmps47
  go_wp2_with fail
  refine name_world fun W hW => ?_
  have C1 : Chg [] w W := by subst hW; (repeat' (first | with_reducible exact Chg.refl _ _ | with_reducible refine Chg.alloc ?_ _ | with_reducible refine Chg.drew ?_ | with_reducible refine Chg.drewN ?_ _ | with_reducible refine Chg.set_ ?_ _ _ (by first | (simp; done) | (simp; omega) | omega)))
  have KA : Blk W w.heap.size 26 (vCells k i s a n c a2 n2 c2) := by subst hW; (repeat' (first | with_reducible exact Blk.new_ (by first | rfl | (simp; done) | (simp; omega)) | with_reducible refine Blk.alloc_ ?_ | with_reducible refine Blk.drew ?_ | with_reducible refine Blk.drewN ?_ _ | with_reducible refine Blk.far_ ?_ (by first | (simp; done) | (simp; omega) | omega) | with_reducible apply Blk.set_eq | rfl))
  have KB : Blk W (w.heap.size + 1) 26 (vCells K I S A1 N Cp A3 N2 Cq) := by subst hW; (repeat' (first | with_reducible exact Blk.new_ (by first | rfl | (simp; done) | (simp; omega)) | with_reducible refine Blk.alloc_ ?_ | with_reducible refine Blk.drew ?_ | with_reducible refine Blk.drewN ?_ _ | with_reducible refine Blk.far_ ?_ (by first | (simp; done) | (simp; omega) | omega) | with_reducible apply Blk.set_eq | rfl))
  have KR : Blk W (w.heap.size + 2) 26 (vCells 0 0 ⟨#[]⟩ none 0 0 none 0 0) := by subst hW; (repeat' (first | with_reducible exact Blk.new_ (by first | rfl | (simp; done) | (simp; omega)) | with_reducible refine Blk.alloc_ ?_ | with_reducible refine Blk.drew ?_ | with_reducible refine Blk.drewN ?_ _ | with_reducible refine Blk.far_ ?_ (by first | (simp; done) | (simp; omega) | omega) | with_reducible apply Blk.set_eq | rfl))
  clear hW
  refine (cT.out W).mono ?_
  rintro e w1 ⟨rfl, hb1⟩
  have C2 := C1.trans (Chg.of_below (S := []) hb1) (by simp)
  have KA := KA.chg (Chg.of_below (S := []) hb1) (by simp)
  have KB := KB.chg (Chg.of_below (S := []) hb1) (by simp)
  have KR := KR.chg (Chg.of_below (S := []) hb1) (by simp)
  clear hb1 C1
  have HC2 := hide C2
  have HR := hide KR
  have k0 := KA.cell 0; have k1 := KA.cell 1; have k2 := KA.cell 2; have k3 := KA.cell 3; have k4 := KA.cell 4; simp at k0 k1 k2 k3 k4
  have j0 := KB.cell 0; have j1 := KB.cell 1; have j2 := KB.cell 2; have j3 := KB.cell 3; have j4 := KB.cell 4; simp at j0 j1 j2 j3 j4
  have r0 := KR.cell 0; have r1 := KR.cell 1; have r2 := KR.cell 2; have r3 := KR.cell 3; have r4 := KR.cell 4; simp at r0 r1 r2 r3 r4
  have z0 := KR.frozen 0; have z1 := KR.frozen 1; have z2 := KR.frozen 2; have z3 := KR.frozen 3; have z4 := KR.frozen 4
  have lA := KA.lt; have lB := KB.lt; have lR := KR.lt
  clear KA KB KR C2
  go_wp2_with fail
  refine name_postO fun W hW => ?_
  have C3 : Chg [w.heap.size + 2] w1 W := by subst hW; (repeat' (first | with_reducible exact Chg.refl _ _ | with_reducible refine Chg.alloc ?_ _ | with_reducible refine Chg.drew ?_ | with_reducible refine Chg.drewN ?_ _ | with_reducible refine Chg.set_ ?_ _ _ (by first | (simp; done) | (simp; omega) | omega)))
  have K2 : Blk W (w.heap.size + 2) 26 (vCells 0 0 ⟨#[]⟩ none 0 0 none 0 0) := by subst hW; (repeat' (first | with_reducible exact HR.out | with_reducible exact Blk.new_ (by first | rfl | (simp; done) | (simp; omega)) | with_reducible refine Blk.alloc_ ?_ | with_reducible refine Blk.drew ?_ | with_reducible refine Blk.drewN ?_ _ | with_reducible refine Blk.far_ ?_ (by first | (simp; done) | (simp; omega) | omega) | with_reducible apply Blk.set_eq | rfl))
  clear k0 k1 k2 k3 k4 j0 j1 j2 j3 j4 r0 r1 r2 r3 r4 z0 z1 z2 z3 z4
  have k0 := K2.cell 0; have k1 := K2.cell 1; have k2 := K2.cell 2; have k3 := K2.cell 3; have k4 := K2.cell 4; simp at k0 k1 k2 k3 k4
  clear hW K2
  simp [bodyPost, results, Tryz.results47, go_sem, k0, k1, k2, k3, k4]
  exact ((HC2.out.mono (S' := [w.heap.size + 2]) (by simp)).trans C3 (by simp) |>.mono (S' := []) (by intro x hx; simp at hx; subst hx; exact .inr (by omega))).bel
end Go.Proofs.YtnepogddjinpoaaGreatDoor

namespace Go.Proofs.YtnepogddjinpoaaGreatDoor
open Go.RowKit
set_option linter.unusedVariables false
set_option linter.unusedSimpArgs false

set_option maxHeartbeats 1000000 in
set_option maxRecDepth 100000 in
theorem cTwo_index_odd5 (i : Int) (s : ByteArray) (a : Option Addr) (n c : Nat) (a2 : Option Addr) (n2 c2 : Nat) (K I : Int) (S : ByteArray) (A1 : Option Addr) (N Cp : Nat) (A3 : Option Addr) (N2 Cq : Nat) (w : World) (hK : ¬ K = 3) :
    Calls Tryz.prog 47 #[.string ⟨#[105, 110, 100, 101, 120]⟩, .agg (vCells 5 i s a n c a2 n2 c2), .agg (vCells K I S A1 N Cp A3 N2 Cq)] w fun e w' => e = .returned (.tuple #[vFlat 0 0 ⟨#[]⟩, .int .i64 13]) ∧ Below w.heap.size w w' := by
  have e_eq : ((⟨#[105, 110, 100, 101, 120]⟩ : ByteArray) == ⟨#[101, 113]⟩) = false := by decide +kernel
  have e_lt : ((⟨#[105, 110, 100, 101, 120]⟩ : ByteArray) == ⟨#[108, 116]⟩) = false := by decide +kernel
  have e_and : ((⟨#[105, 110, 100, 101, 120]⟩ : ByteArray) == ⟨#[97, 110, 100]⟩) = false := by decide +kernel
  have e_or : ((⟨#[105, 110, 100, 101, 120]⟩ : ByteArray) == ⟨#[111, 114]⟩) = false := by decide +kernel
  have e_default : ((⟨#[105, 110, 100, 101, 120]⟩ : ByteArray) == ⟨#[100, 101, 102, 97, 117, 108, 116]⟩) = false := by decide +kernel
  have e2 : (K == 3) = false := by simpa using hK
  have cT := hide (fun W => cValTruth 5 i s a n c a2 n2 c2 W)
  obtain ⟨q, hq⟩ : ∃ q, truthC 5 i s n = q := ⟨_, rfl⟩
  rw [hq] at cT
  clear hq
  go_enter Tryz.func47, Tryz.ntmps47
  go_wp2_with fail
  refine name_world fun W hW => ?_
  have C1 : Chg [] w W := by subst hW; (repeat' (first | with_reducible exact Chg.refl _ _ | with_reducible refine Chg.alloc ?_ _ | with_reducible refine Chg.drew ?_ | with_reducible refine Chg.drewN ?_ _ | with_reducible refine Chg.set_ ?_ _ _ (by first | (simp; done) | (simp; omega) | omega)))
  have KA : Blk W w.heap.size 26 (vCells 5 i s a n c a2 n2 c2) := by subst hW; (repeat' (first | with_reducible exact Blk.new_ (by first | rfl | (simp; done) | (simp; omega)) | with_reducible refine Blk.alloc_ ?_ | with_reducible refine Blk.drew ?_ | with_reducible refine Blk.drewN ?_ _ | with_reducible refine Blk.far_ ?_ (by first | (simp; done) | (simp; omega) | omega) | with_reducible apply Blk.set_eq | rfl))
  have KB : Blk W (w.heap.size + 1) 26 (vCells K I S A1 N Cp A3 N2 Cq) := by subst hW; (repeat' (first | with_reducible exact Blk.new_ (by first | rfl | (simp; done) | (simp; omega)) | with_reducible refine Blk.alloc_ ?_ | with_reducible refine Blk.drew ?_ | with_reducible refine Blk.drewN ?_ _ | with_reducible refine Blk.far_ ?_ (by first | (simp; done) | (simp; omega) | omega) | with_reducible apply Blk.set_eq | rfl))
  have KR : Blk W (w.heap.size + 2) 26 (vCells 0 0 ⟨#[]⟩ none 0 0 none 0 0) := by subst hW; (repeat' (first | with_reducible exact Blk.new_ (by first | rfl | (simp; done) | (simp; omega)) | with_reducible refine Blk.alloc_ ?_ | with_reducible refine Blk.drew ?_ | with_reducible refine Blk.drewN ?_ _ | with_reducible refine Blk.far_ ?_ (by first | (simp; done) | (simp; omega) | omega) | with_reducible apply Blk.set_eq | rfl))
  clear hW
  refine (cT.out W).mono ?_
  rintro e w1 ⟨rfl, hb1⟩
  have C2 := C1.trans (Chg.of_below (S := []) hb1) (by simp)
  have KA := KA.chg (Chg.of_below (S := []) hb1) (by simp)
  have KB := KB.chg (Chg.of_below (S := []) hb1) (by simp)
  have KR := KR.chg (Chg.of_below (S := []) hb1) (by simp)
  clear hb1 C1
  have HC2 := hide C2
  have HR := hide KR
  have k0 := KA.cell 0; have k1 := KA.cell 1; have k2 := KA.cell 2; have k3 := KA.cell 3; have k4 := KA.cell 4; simp at k0 k1 k2 k3 k4
  have j0 := KB.cell 0; have j1 := KB.cell 1; have j2 := KB.cell 2; have j3 := KB.cell 3; have j4 := KB.cell 4; simp at j0 j1 j2 j3 j4
  have r0 := KR.cell 0; have r1 := KR.cell 1; have r2 := KR.cell 2; have r3 := KR.cell 3; have r4 := KR.cell 4; simp at r0 r1 r2 r3 r4
  have z0 := KR.frozen 0; have z1 := KR.frozen 1; have z2 := KR.frozen 2; have z3 := KR.frozen 3; have z4 := KR.frozen 4
  have lA := KA.lt; have lB := KB.lt; have lR := KR.lt
  clear KA KB KR C2
  go_wp2_with fail
  refine name_postO fun W hW => ?_
  have C3 : Chg [w.heap.size + 2] w1 W := by subst hW; (repeat' (first | with_reducible exact Chg.refl _ _ | with_reducible refine Chg.alloc ?_ _ | with_reducible refine Chg.drew ?_ | with_reducible refine Chg.drewN ?_ _ | with_reducible refine Chg.set_ ?_ _ _ (by first | (simp; done) | (simp; omega) | omega)))
  have K2 : Blk W (w.heap.size + 2) 26 (vCells 0 0 ⟨#[]⟩ none 0 0 none 0 0) := by subst hW; (repeat' (first | with_reducible exact HR.out | with_reducible exact Blk.new_ (by first | rfl | (simp; done) | (simp; omega)) | with_reducible refine Blk.alloc_ ?_ | with_reducible refine Blk.drew ?_ | with_reducible refine Blk.drewN ?_ _ | with_reducible refine Blk.far_ ?_ (by first | (simp; done) | (simp; omega) | omega) | with_reducible apply Blk.set_eq | rfl))
  clear k0 k1 k2 k3 k4 j0 j1 j2 j3 j4 r0 r1 r2 r3 r4 z0 z1 z2 z3 z4
  have k0 := K2.cell 0; have k1 := K2.cell 1; have k2 := K2.cell 2; have k3 := K2.cell 3; have k4 := K2.cell 4; simp at k0 k1 k2 k3 k4
  clear hW K2
  simp [bodyPost, results, Tryz.results47, go_sem, k0, k1, k2, k3, k4]
  exact ((HC2.out.mono (S' := [w.heap.size + 2]) (by simp)).trans C3 (by simp) |>.mono (S' := []) (by intro x hx; simp at hx; subst hx; exact .inr (by omega))).bel
set_option maxHeartbeats 1000000 in
set_option maxRecDepth 100000 in
theorem cTwo_index_odd6 (i : Int) (s : ByteArray) (a : Option Addr) (n c : Nat) (a2 : Option Addr) (n2 c2 : Nat) (K I : Int) (S : ByteArray) (A1 : Option Addr) (N Cp : Nat) (A3 : Option Addr) (N2 Cq : Nat) (w : World) (hK : ¬ K = 4) :
    Calls Tryz.prog 47 #[.string ⟨#[105, 110, 100, 101, 120]⟩, .agg (vCells 6 i s a n c a2 n2 c2), .agg (vCells K I S A1 N Cp A3 N2 Cq)] w fun e w' => e = .returned (.tuple #[vFlat 0 0 ⟨#[]⟩, .int .i64 13]) ∧ Below w.heap.size w w' := by
  have e_eq : ((⟨#[105, 110, 100, 101, 120]⟩ : ByteArray) == ⟨#[101, 113]⟩) = false := by decide +kernel
  have e_lt : ((⟨#[105, 110, 100, 101, 120]⟩ : ByteArray) == ⟨#[108, 116]⟩) = false := by decide +kernel
  have e_and : ((⟨#[105, 110, 100, 101, 120]⟩ : ByteArray) == ⟨#[97, 110, 100]⟩) = false := by decide +kernel
  have e_or : ((⟨#[105, 110, 100, 101, 120]⟩ : ByteArray) == ⟨#[111, 114]⟩) = false := by decide +kernel
  have e_default : ((⟨#[105, 110, 100, 101, 120]⟩ : ByteArray) == ⟨#[100, 101, 102, 97, 117, 108, 116]⟩) = false := by decide +kernel
  have e2 : (K == 4) = false := by simpa using hK
  have cT := hide (fun W => cValTruth 6 i s a n c a2 n2 c2 W)
  obtain ⟨q, hq⟩ : ∃ q, truthC 6 i s n = q := ⟨_, rfl⟩
  rw [hq] at cT
  clear hq
  go_enter Tryz.func47, Tryz.ntmps47
  go_wp2_with fail
  refine name_world fun W hW => ?_
  have C1 : Chg [] w W := by subst hW; (repeat' (first | with_reducible exact Chg.refl _ _ | with_reducible refine Chg.alloc ?_ _ | with_reducible refine Chg.drew ?_ | with_reducible refine Chg.drewN ?_ _ | with_reducible refine Chg.set_ ?_ _ _ (by first | (simp; done) | (simp; omega) | omega)))
  have KA : Blk W w.heap.size 26 (vCells 6 i s a n c a2 n2 c2) := by subst hW; (repeat' (first | with_reducible exact Blk.new_ (by first | rfl | (simp; done) | (simp; omega)) | with_reducible refine Blk.alloc_ ?_ | with_reducible refine Blk.drew ?_ | with_reducible refine Blk.drewN ?_ _ | with_reducible refine Blk.far_ ?_ (by first | (simp; done) | (simp; omega) | omega) | with_reducible apply Blk.set_eq | rfl))
  have KB : Blk W (w.heap.size + 1) 26 (vCells K I S A1 N Cp A3 N2 Cq) := by subst hW; (repeat' (first | with_reducible exact Blk.new_ (by first | rfl | (simp; done) | (simp; omega)) | with_reducible refine Blk.alloc_ ?_ | with_reducible refine Blk.drew ?_ | with_reducible refine Blk.drewN ?_ _ | with_reducible refine Blk.far_ ?_ (by first | (simp; done) | (simp; omega) | omega) | with_reducible apply Blk.set_eq | rfl))
  have KR : Blk W (w.heap.size + 2) 26 (vCells 0 0 ⟨#[]⟩ none 0 0 none 0 0) := by subst hW; (repeat' (first | with_reducible exact Blk.new_ (by first | rfl | (simp; done) | (simp; omega)) | with_reducible refine Blk.alloc_ ?_ | with_reducible refine Blk.drew ?_ | with_reducible refine Blk.drewN ?_ _ | with_reducible refine Blk.far_ ?_ (by first | (simp; done) | (simp; omega) | omega) | with_reducible apply Blk.set_eq | rfl))
  clear hW
  refine (cT.out W).mono ?_
  rintro e w1 ⟨rfl, hb1⟩
  have C2 := C1.trans (Chg.of_below (S := []) hb1) (by simp)
  have KA := KA.chg (Chg.of_below (S := []) hb1) (by simp)
  have KB := KB.chg (Chg.of_below (S := []) hb1) (by simp)
  have KR := KR.chg (Chg.of_below (S := []) hb1) (by simp)
  clear hb1 C1
  have HC2 := hide C2
  have HR := hide KR
  have k0 := KA.cell 0; have k1 := KA.cell 1; have k2 := KA.cell 2; have k3 := KA.cell 3; have k4 := KA.cell 4; simp at k0 k1 k2 k3 k4
  have j0 := KB.cell 0; have j1 := KB.cell 1; have j2 := KB.cell 2; have j3 := KB.cell 3; have j4 := KB.cell 4; simp at j0 j1 j2 j3 j4
  have r0 := KR.cell 0; have r1 := KR.cell 1; have r2 := KR.cell 2; have r3 := KR.cell 3; have r4 := KR.cell 4; simp at r0 r1 r2 r3 r4
  have z0 := KR.frozen 0; have z1 := KR.frozen 1; have z2 := KR.frozen 2; have z3 := KR.frozen 3; have z4 := KR.frozen 4
  have lA := KA.lt; have lB := KB.lt; have lR := KR.lt
  clear KA KB KR C2
  go_wp2_with fail
  refine name_postO fun W hW => ?_
  have C3 : Chg [w.heap.size + 2] w1 W := by subst hW; (repeat' (first | with_reducible exact Chg.refl _ _ | with_reducible refine Chg.alloc ?_ _ | with_reducible refine Chg.drew ?_ | with_reducible refine Chg.drewN ?_ _ | with_reducible refine Chg.set_ ?_ _ _ (by first | (simp; done) | (simp; omega) | omega)))
  have K2 : Blk W (w.heap.size + 2) 26 (vCells 0 0 ⟨#[]⟩ none 0 0 none 0 0) := by subst hW; (repeat' (first | with_reducible exact HR.out | with_reducible exact Blk.new_ (by first | rfl | (simp; done) | (simp; omega)) | with_reducible refine Blk.alloc_ ?_ | with_reducible refine Blk.drew ?_ | with_reducible refine Blk.drewN ?_ _ | with_reducible refine Blk.far_ ?_ (by first | (simp; done) | (simp; omega) | omega) | with_reducible apply Blk.set_eq | rfl))
  clear k0 k1 k2 k3 k4 j0 j1 j2 j3 j4 r0 r1 r2 r3 r4 z0 z1 z2 z3 z4
  have k0 := K2.cell 0; have k1 := K2.cell 1; have k2 := K2.cell 2; have k3 := K2.cell 3; have k4 := K2.cell 4; simp at k0 k1 k2 k3 k4
  clear hW K2
  simp [bodyPost, results, Tryz.results47, go_sem, k0, k1, k2, k3, k4]
  exact ((HC2.out.mono (S' := [w.heap.size + 2]) (by simp)).trans C3 (by simp) |>.mono (S' := []) (by intro x hx; simp at hx; subst hx; exact .inr (by omega))).bel
set_option maxHeartbeats 1000000 in
set_option maxRecDepth 100000 in
theorem cTwo_index_odd (k i : Int) (s : ByteArray) (a : Option Addr) (n c : Nat) (a2 : Option Addr) (n2 c2 : Nat) (K I : Int) (S : ByteArray) (A1 : Option Addr) (N Cp : Nat) (A3 : Option Addr) (N2 Cq : Nat) (w : World) (h5 : ¬ k = 5) (h6 : ¬ k = 6) :
    Calls Tryz.prog 47 #[.string ⟨#[105, 110, 100, 101, 120]⟩, .agg (vCells k i s a n c a2 n2 c2), .agg (vCells K I S A1 N Cp A3 N2 Cq)] w fun e w' => e = .returned (.tuple #[vFlat 0 0 ⟨#[]⟩, .int .i64 13]) ∧ Below w.heap.size w w' := by
  have e_eq : ((⟨#[105, 110, 100, 101, 120]⟩ : ByteArray) == ⟨#[101, 113]⟩) = false := by decide +kernel
  have e_lt : ((⟨#[105, 110, 100, 101, 120]⟩ : ByteArray) == ⟨#[108, 116]⟩) = false := by decide +kernel
  have e_and : ((⟨#[105, 110, 100, 101, 120]⟩ : ByteArray) == ⟨#[97, 110, 100]⟩) = false := by decide +kernel
  have e_or : ((⟨#[105, 110, 100, 101, 120]⟩ : ByteArray) == ⟨#[111, 114]⟩) = false := by decide +kernel
  have e_default : ((⟨#[105, 110, 100, 101, 120]⟩ : ByteArray) == ⟨#[100, 101, 102, 97, 117, 108, 116]⟩) = false := by decide +kernel
  have e0 : (k == 5) = false := by simpa using h5
  have e1 : (k == 6) = false := by simpa using h6
  have cT := hide (fun W => cValTruth k i s a n c a2 n2 c2 W)
  obtain ⟨q, hq⟩ : ∃ q, truthC k i s n = q := ⟨_, rfl⟩
  rw [hq] at cT
  clear hq
  go_enter Tryz.func47, Tryz.ntmps47
  go_wp2_with fail
  refine name_world fun W hW => ?_
  have C1 : Chg [] w W := by subst hW; (repeat' (first | with_reducible exact Chg.refl _ _ | with_reducible refine Chg.alloc ?_ _ | with_reducible refine Chg.drew ?_ | with_reducible refine Chg.drewN ?_ _ | with_reducible refine Chg.set_ ?_ _ _ (by first | (simp; done) | (simp; omega) | omega)))
  have KA : Blk W w.heap.size 26 (vCells k i s a n c a2 n2 c2) := by subst hW; (repeat' (first | with_reducible exact Blk.new_ (by first | rfl | (simp; done) | (simp; omega)) | with_reducible refine Blk.alloc_ ?_ | with_reducible refine Blk.drew ?_ | with_reducible refine Blk.drewN ?_ _ | with_reducible refine Blk.far_ ?_ (by first | (simp; done) | (simp; omega) | omega) | with_reducible apply Blk.set_eq | rfl))
  have KB : Blk W (w.heap.size + 1) 26 (vCells K I S A1 N Cp A3 N2 Cq) := by subst hW; (repeat' (first | with_reducible exact Blk.new_ (by first | rfl | (simp; done) | (simp; omega)) | with_reducible refine Blk.alloc_ ?_ | with_reducible refine Blk.drew ?_ | with_reducible refine Blk.drewN ?_ _ | with_reducible refine Blk.far_ ?_ (by first | (simp; done) | (simp; omega) | omega) | with_reducible apply Blk.set_eq | rfl))
  have KR : Blk W (w.heap.size + 2) 26 (vCells 0 0 ⟨#[]⟩ none 0 0 none 0 0) := by subst hW; (repeat' (first | with_reducible exact Blk.new_ (by first | rfl | (simp; done) | (simp; omega)) | with_reducible refine Blk.alloc_ ?_ | with_reducible refine Blk.drew ?_ | with_reducible refine Blk.drewN ?_ _ | with_reducible refine Blk.far_ ?_ (by first | (simp; done) | (simp; omega) | omega) | with_reducible apply Blk.set_eq | rfl))
  clear hW
  refine (cT.out W).mono ?_
  rintro e w1 ⟨rfl, hb1⟩
  have C2 := C1.trans (Chg.of_below (S := []) hb1) (by simp)
  have KA := KA.chg (Chg.of_below (S := []) hb1) (by simp)
  have KB := KB.chg (Chg.of_below (S := []) hb1) (by simp)
  have KR := KR.chg (Chg.of_below (S := []) hb1) (by simp)
  clear hb1 C1
  have HC2 := hide C2
  have HR := hide KR
  have k0 := KA.cell 0; have k1 := KA.cell 1; have k2 := KA.cell 2; have k3 := KA.cell 3; have k4 := KA.cell 4; simp at k0 k1 k2 k3 k4
  have j0 := KB.cell 0; have j1 := KB.cell 1; have j2 := KB.cell 2; have j3 := KB.cell 3; have j4 := KB.cell 4; simp at j0 j1 j2 j3 j4
  have r0 := KR.cell 0; have r1 := KR.cell 1; have r2 := KR.cell 2; have r3 := KR.cell 3; have r4 := KR.cell 4; simp at r0 r1 r2 r3 r4
  have z0 := KR.frozen 0; have z1 := KR.frozen 1; have z2 := KR.frozen 2; have z3 := KR.frozen 3; have z4 := KR.frozen 4
  have lA := KA.lt; have lB := KB.lt; have lR := KR.lt
  clear KA KB KR C2
  go_wp2_with fail
  refine name_postO fun W hW => ?_
  have C3 : Chg [w.heap.size + 2] w1 W := by subst hW; (repeat' (first | with_reducible exact Chg.refl _ _ | with_reducible refine Chg.alloc ?_ _ | with_reducible refine Chg.drew ?_ | with_reducible refine Chg.drewN ?_ _ | with_reducible refine Chg.set_ ?_ _ _ (by first | (simp; done) | (simp; omega) | omega)))
  have K2 : Blk W (w.heap.size + 2) 26 (vCells 0 0 ⟨#[]⟩ none 0 0 none 0 0) := by subst hW; (repeat' (first | with_reducible exact HR.out | with_reducible exact Blk.new_ (by first | rfl | (simp; done) | (simp; omega)) | with_reducible refine Blk.alloc_ ?_ | with_reducible refine Blk.drew ?_ | with_reducible refine Blk.drewN ?_ _ | with_reducible refine Blk.far_ ?_ (by first | (simp; done) | (simp; omega) | omega) | with_reducible apply Blk.set_eq | rfl))
  clear k0 k1 k2 k3 k4 j0 j1 j2 j3 j4 r0 r1 r2 r3 r4 z0 z1 z2 z3 z4
  have k0 := K2.cell 0; have k1 := K2.cell 1; have k2 := K2.cell 2; have k3 := K2.cell 3; have k4 := K2.cell 4; simp at k0 k1 k2 k3 k4
  clear hW K2
  simp [bodyPost, results, Tryz.results47, go_sem, k0, k1, k2, k3, k4]
  exact ((HC2.out.mono (S' := [w.heap.size + 2]) (by simp)).trans C3 (by simp) |>.mono (S' := []) (by intro x hx; simp at hx; subst hx; exact .inr (by omega))).bel
set_option maxHeartbeats 1000000 in
set_option maxRecDepth 100000 in
theorem cTwo_join_odd5 (i : Int) (s : ByteArray) (a : Option Addr) (n c : Nat) (a2 : Option Addr) (n2 c2 : Nat) (K I : Int) (S : ByteArray) (A1 : Option Addr) (N Cp : Nat) (A3 : Option Addr) (N2 Cq : Nat) (w : World) (hK : ¬ K = 4) :
    Calls Tryz.prog 47 #[.string ⟨#[106, 111, 105, 110]⟩, .agg (vCells 5 i s a n c a2 n2 c2), .agg (vCells K I S A1 N Cp A3 N2 Cq)] w fun e w' => e = .returned (.tuple #[vFlat 0 0 ⟨#[]⟩, .int .i64 13]) ∧ Below w.heap.size w w' := by
  have e_eq : ((⟨#[106, 111, 105, 110]⟩ : ByteArray) == ⟨#[101, 113]⟩) = false := by decide +kernel
  have e_lt : ((⟨#[106, 111, 105, 110]⟩ : ByteArray) == ⟨#[108, 116]⟩) = false := by decide +kernel
  have e_and : ((⟨#[106, 111, 105, 110]⟩ : ByteArray) == ⟨#[97, 110, 100]⟩) = false := by decide +kernel
  have e_or : ((⟨#[106, 111, 105, 110]⟩ : ByteArray) == ⟨#[111, 114]⟩) = false := by decide +kernel
  have e_default : ((⟨#[106, 111, 105, 110]⟩ : ByteArray) == ⟨#[100, 101, 102, 97, 117, 108, 116]⟩) = false := by decide +kernel
  have e_index : ((⟨#[106, 111, 105, 110]⟩ : ByteArray) == ⟨#[105, 110, 100, 101, 120]⟩) = false := by decide +kernel
  have e2 : (K == 4) = false := by simpa using hK
  have e3 : (K != 4) = true := by simpa using hK
  have cT := hide (fun W => cValTruth 5 i s a n c a2 n2 c2 W)
  obtain ⟨q, hq⟩ : ∃ q, truthC 5 i s n = q := ⟨_, rfl⟩
  rw [hq] at cT
  clear hq
  go_enter Tryz.func47, Tryz.ntmps47
  go_wp2_with fail
  refine name_world fun W hW => ?_
  have C1 : Chg [] w W := by subst hW; (repeat' (first | with_reducible exact Chg.refl _ _ | with_reducible refine Chg.alloc ?_ _ | with_reducible refine Chg.drew ?_ | with_reducible refine Chg.drewN ?_ _ | with_reducible refine Chg.set_ ?_ _ _ (by first | (simp; done) | (simp; omega) | omega)))
  have KA : Blk W w.heap.size 26 (vCells 5 i s a n c a2 n2 c2) := by subst hW; (repeat' (first | with_reducible exact Blk.new_ (by first | rfl | (simp; done) | (simp; omega)) | with_reducible refine Blk.alloc_ ?_ | with_reducible refine Blk.drew ?_ | with_reducible refine Blk.drewN ?_ _ | with_reducible refine Blk.far_ ?_ (by first | (simp; done) | (simp; omega) | omega) | with_reducible apply Blk.set_eq | rfl))
  have KB : Blk W (w.heap.size + 1) 26 (vCells K I S A1 N Cp A3 N2 Cq) := by subst hW; (repeat' (first | with_reducible exact Blk.new_ (by first | rfl | (simp; done) | (simp; omega)) | with_reducible refine Blk.alloc_ ?_ | with_reducible refine Blk.drew ?_ | with_reducible refine Blk.drewN ?_ _ | with_reducible refine Blk.far_ ?_ (by first | (simp; done) | (simp; omega) | omega) | with_reducible apply Blk.set_eq | rfl))
  have KR : Blk W (w.heap.size + 2) 26 (vCells 0 0 ⟨#[]⟩ none 0 0 none 0 0) := by subst hW; (repeat' (first | with_reducible exact Blk.new_ (by first | rfl | (simp; done) | (simp; omega)) | with_reducible refine Blk.alloc_ ?_ | with_reducible refine Blk.drew ?_ | with_reducible refine Blk.drewN ?_ _ | with_reducible refine Blk.far_ ?_ (by first | (simp; done) | (simp; omega) | omega) | with_reducible apply Blk.set_eq | rfl))
  clear hW
  refine (cT.out W).mono ?_
  rintro e w1 ⟨rfl, hb1⟩
  have C2 := C1.trans (Chg.of_below (S := []) hb1) (by simp)
  have KA := KA.chg (Chg.of_below (S := []) hb1) (by simp)
  have KB := KB.chg (Chg.of_below (S := []) hb1) (by simp)
  have KR := KR.chg (Chg.of_below (S := []) hb1) (by simp)
  clear hb1 C1
  have HC2 := hide C2
  have HR := hide KR
  have k0 := KA.cell 0; have k1 := KA.cell 1; have k2 := KA.cell 2; have k3 := KA.cell 3; have k4 := KA.cell 4; simp at k0 k1 k2 k3 k4
  have j0 := KB.cell 0; have j1 := KB.cell 1; have j2 := KB.cell 2; have j3 := KB.cell 3; have j4 := KB.cell 4; simp at j0 j1 j2 j3 j4
  have r0 := KR.cell 0; have r1 := KR.cell 1; have r2 := KR.cell 2; have r3 := KR.cell 3; have r4 := KR.cell 4; simp at r0 r1 r2 r3 r4
  have z0 := KR.frozen 0; have z1 := KR.frozen 1; have z2 := KR.frozen 2; have z3 := KR.frozen 3; have z4 := KR.frozen 4
  have lA := KA.lt; have lB := KB.lt; have lR := KR.lt
  clear KA KB KR C2
  go_wp2_with fail
  refine name_postO fun W hW => ?_
  have C3 : Chg [w.heap.size + 2] w1 W := by subst hW; (repeat' (first | with_reducible exact Chg.refl _ _ | with_reducible refine Chg.alloc ?_ _ | with_reducible refine Chg.drew ?_ | with_reducible refine Chg.drewN ?_ _ | with_reducible refine Chg.set_ ?_ _ _ (by first | (simp; done) | (simp; omega) | omega)))
  have K2 : Blk W (w.heap.size + 2) 26 (vCells 0 0 ⟨#[]⟩ none 0 0 none 0 0) := by subst hW; (repeat' (first | with_reducible exact HR.out | with_reducible exact Blk.new_ (by first | rfl | (simp; done) | (simp; omega)) | with_reducible refine Blk.alloc_ ?_ | with_reducible refine Blk.drew ?_ | with_reducible refine Blk.drewN ?_ _ | with_reducible refine Blk.far_ ?_ (by first | (simp; done) | (simp; omega) | omega) | with_reducible apply Blk.set_eq | rfl))
  clear k0 k1 k2 k3 k4 j0 j1 j2 j3 j4 r0 r1 r2 r3 r4 z0 z1 z2 z3 z4
  have k0 := K2.cell 0; have k1 := K2.cell 1; have k2 := K2.cell 2; have k3 := K2.cell 3; have k4 := K2.cell 4; simp at k0 k1 k2 k3 k4
  clear hW K2
  simp [bodyPost, results, Tryz.results47, go_sem, k0, k1, k2, k3, k4]
  exact ((HC2.out.mono (S' := [w.heap.size + 2]) (by simp)).trans C3 (by simp) |>.mono (S' := []) (by intro x hx; simp at hx; subst hx; exact .inr (by omega))).bel
set_option maxHeartbeats 1000000 in
set_option maxRecDepth 100000 in
theorem cTwo_join_odd (k i : Int) (s : ByteArray) (a : Option Addr) (n c : Nat) (a2 : Option Addr) (n2 c2 : Nat) (K I : Int) (S : ByteArray) (A1 : Option Addr) (N Cp : Nat) (A3 : Option Addr) (N2 Cq : Nat) (w : World) (h5 : ¬ k = 5) :
    Calls Tryz.prog 47 #[.string ⟨#[106, 111, 105, 110]⟩, .agg (vCells k i s a n c a2 n2 c2), .agg (vCells K I S A1 N Cp A3 N2 Cq)] w fun e w' => e = .returned (.tuple #[vFlat 0 0 ⟨#[]⟩, .int .i64 13]) ∧ Below w.heap.size w w' := by
  have e_eq : ((⟨#[106, 111, 105, 110]⟩ : ByteArray) == ⟨#[101, 113]⟩) = false := by decide +kernel
  have e_lt : ((⟨#[106, 111, 105, 110]⟩ : ByteArray) == ⟨#[108, 116]⟩) = false := by decide +kernel
  have e_and : ((⟨#[106, 111, 105, 110]⟩ : ByteArray) == ⟨#[97, 110, 100]⟩) = false := by decide +kernel
  have e_or : ((⟨#[106, 111, 105, 110]⟩ : ByteArray) == ⟨#[111, 114]⟩) = false := by decide +kernel
  have e_default : ((⟨#[106, 111, 105, 110]⟩ : ByteArray) == ⟨#[100, 101, 102, 97, 117, 108, 116]⟩) = false := by decide +kernel
  have e_index : ((⟨#[106, 111, 105, 110]⟩ : ByteArray) == ⟨#[105, 110, 100, 101, 120]⟩) = false := by decide +kernel
  have e0 : (k == 5) = false := by simpa using h5
  have e3 : (k != 5) = true := by simpa using h5
  have cT := hide (fun W => cValTruth k i s a n c a2 n2 c2 W)
  obtain ⟨q, hq⟩ : ∃ q, truthC k i s n = q := ⟨_, rfl⟩
  rw [hq] at cT
  clear hq
  go_enter Tryz.func47, Tryz.ntmps47
  go_wp2_with fail
  refine name_world fun W hW => ?_
  have C1 : Chg [] w W := by subst hW; (repeat' (first | with_reducible exact Chg.refl _ _ | with_reducible refine Chg.alloc ?_ _ | with_reducible refine Chg.drew ?_ | with_reducible refine Chg.drewN ?_ _ | with_reducible refine Chg.set_ ?_ _ _ (by first | (simp; done) | (simp; omega) | omega)))
  have KA : Blk W w.heap.size 26 (vCells k i s a n c a2 n2 c2) := by subst hW; (repeat' (first | with_reducible exact Blk.new_ (by first | rfl | (simp; done) | (simp; omega)) | with_reducible refine Blk.alloc_ ?_ | with_reducible refine Blk.drew ?_ | with_reducible refine Blk.drewN ?_ _ | with_reducible refine Blk.far_ ?_ (by first | (simp; done) | (simp; omega) | omega) | with_reducible apply Blk.set_eq | rfl))
  have KB : Blk W (w.heap.size + 1) 26 (vCells K I S A1 N Cp A3 N2 Cq) := by subst hW; (repeat' (first | with_reducible exact Blk.new_ (by first | rfl | (simp; done) | (simp; omega)) | with_reducible refine Blk.alloc_ ?_ | with_reducible refine Blk.drew ?_ | with_reducible refine Blk.drewN ?_ _ | with_reducible refine Blk.far_ ?_ (by first | (simp; done) | (simp; omega) | omega) | with_reducible apply Blk.set_eq | rfl))
  have KR : Blk W (w.heap.size + 2) 26 (vCells 0 0 ⟨#[]⟩ none 0 0 none 0 0) := by subst hW; (repeat' (first | with_reducible exact Blk.new_ (by first | rfl | (simp; done) | (simp; omega)) | with_reducible refine Blk.alloc_ ?_ | with_reducible refine Blk.drew ?_ | with_reducible refine Blk.drewN ?_ _ | with_reducible refine Blk.far_ ?_ (by first | (simp; done) | (simp; omega) | omega) | with_reducible apply Blk.set_eq | rfl))
  clear hW
  refine (cT.out W).mono ?_
  rintro e w1 ⟨rfl, hb1⟩
  have C2 := C1.trans (Chg.of_below (S := []) hb1) (by simp)
  have KA := KA.chg (Chg.of_below (S := []) hb1) (by simp)
  have KB := KB.chg (Chg.of_below (S := []) hb1) (by simp)
  have KR := KR.chg (Chg.of_below (S := []) hb1) (by simp)
  clear hb1 C1
  have HC2 := hide C2
  have HR := hide KR
  have k0 := KA.cell 0; have k1 := KA.cell 1; have k2 := KA.cell 2; have k3 := KA.cell 3; have k4 := KA.cell 4; simp at k0 k1 k2 k3 k4
  have j0 := KB.cell 0; have j1 := KB.cell 1; have j2 := KB.cell 2; have j3 := KB.cell 3; have j4 := KB.cell 4; simp at j0 j1 j2 j3 j4
  have r0 := KR.cell 0; have r1 := KR.cell 1; have r2 := KR.cell 2; have r3 := KR.cell 3; have r4 := KR.cell 4; simp at r0 r1 r2 r3 r4
  have z0 := KR.frozen 0; have z1 := KR.frozen 1; have z2 := KR.frozen 2; have z3 := KR.frozen 3; have z4 := KR.frozen 4
  have lA := KA.lt; have lB := KB.lt; have lR := KR.lt
  clear KA KB KR C2
  go_wp2_with fail
  refine name_postO fun W hW => ?_
  have C3 : Chg [w.heap.size + 2] w1 W := by subst hW; (repeat' (first | with_reducible exact Chg.refl _ _ | with_reducible refine Chg.alloc ?_ _ | with_reducible refine Chg.drew ?_ | with_reducible refine Chg.drewN ?_ _ | with_reducible refine Chg.set_ ?_ _ _ (by first | (simp; done) | (simp; omega) | omega)))
  have K2 : Blk W (w.heap.size + 2) 26 (vCells 0 0 ⟨#[]⟩ none 0 0 none 0 0) := by subst hW; (repeat' (first | with_reducible exact HR.out | with_reducible exact Blk.new_ (by first | rfl | (simp; done) | (simp; omega)) | with_reducible refine Blk.alloc_ ?_ | with_reducible refine Blk.drew ?_ | with_reducible refine Blk.drewN ?_ _ | with_reducible refine Blk.far_ ?_ (by first | (simp; done) | (simp; omega) | omega) | with_reducible apply Blk.set_eq | rfl))
  clear k0 k1 k2 k3 k4 j0 j1 j2 j3 j4 r0 r1 r2 r3 r4 z0 z1 z2 z3 z4
  have k0 := K2.cell 0; have k1 := K2.cell 1; have k2 := K2.cell 2; have k3 := K2.cell 3; have k4 := K2.cell 4; simp at k0 k1 k2 k3 k4
  clear hW K2
  simp [bodyPost, results, Tryz.results47, go_sem, k0, k1, k2, k3, k4]
  exact ((HC2.out.mono (S' := [w.heap.size + 2]) (by simp)).trans C3 (by simp) |>.mono (S' := []) (by intro x hx; simp at hx; subst hx; exact .inr (by omega))).bel
end Go.Proofs.YtnepogddjinpoaaGreatDoor
