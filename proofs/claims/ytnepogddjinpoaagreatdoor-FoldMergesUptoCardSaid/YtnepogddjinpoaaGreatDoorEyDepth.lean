/-
  How deep nodes are that hold none (parse.Depth); the example's units may be (exec.Check).
-/
import Derived.Test.YtnepogddjinpoaaGreatDoorEyMay
import Derived.Test.YtnepogddjinpoaaGreatDoorQB
namespace Go.Proofs.YtnepogddjinpoaaGreatDoor
open Go.RowKit
set_option linter.unusedVariables false
set_option linter.unusedSimpArgs false

theorem name_codeY {P : Program} {c : Code} {Q : Exit → Act → World → Prop} {a : Act} {w : World} (h : ∀ W, w = W → c.wp P Q a W) : c.wp P Q a w := h w rfl
def flatDepth (i : Nat) : Int := if i = 0 then 0 else 1
set_option maxHeartbeats 2000000 in
set_option maxRecDepth 100000 in
theorem depthP1 (U : World → Nat → Prop) (hU : Lasts U) (a : Option Addr) (c : Nat) (l : List (NN (NT 0))) (w : World) (h : AtR (NodeR 1) 9 U w a l) (hlen : l.length ≤ 1048576) :
    Calls Tryz.prog 49 #[.slice a l.length c] w fun e w' => e = .returned (.int .i64 (flatDepth l.length)) ∧ Below w.heap.size w w' := by
  have H := hide h
  clear h
  go_enter Tryz.func49, Tryz.ntmps49
  go_wp2_with fail
  go_loopw [3, 8] (fun nv iv wr => ∃ (i : Nat), iv = .int .i64 (i : Int) ∧ nv = .int .i64 (flatDepth i) ∧ i ≤ l.length ∧ Hid (Below w.heap.size w wr)) (fun _ iv _ => l.length - (intOf iv).toNat)
  case atStart => exact ⟨0, rfl, rfl, Nat.zero_le _, Below.refl _ _⟩
  case round =>
    obtain ⟨i, rfl, rfl, hil, hJ⟩ := hrel
    by_cases hlt : i < l.length
    · obtain ⟨x, hx⟩ : ∃ x, l[i]? = some x := ⟨_, List.getElem?_eq_getElem hlt⟩
      obtain ⟨g, o, vs, rfl, hg, _, _, hcell, hN⟩ := (H.out.on (NodeR.steady 1) (hU.stays hJ.out)) i x hx
      obtain ⟨a1, c1, a2, c2, a3, c3, rfl, q1, q2, q3⟩ := NodeR.parts (x := x) hN
      have f0 := hcell 0 _ rfl; have f1 := hcell 1 _ rfl; have f2 := hcell 2 _ rfl; have f3 := hcell 3 _ rfl; have f4 := hcell 4 _ rfl; have f5 := hcell 5 _ rfl; have f6 := hcell 6 _ rfl; have f7 := hcell 7 _ rfl; have f8 := hcell 8 _ rfl
      simp only [Nat.add_zero] at f0
      rw [nil0 x.body] at f4
      rw [nil0 x.els] at f5
      simp only [List.length_nil] at f4 f5
      have hji : (i : Int) < (l.length : Int) := by omega
      have hi9 : i < 1048576 := by omega
      have hnx : flatDepth (i + 1) = 1 := by unfold flatDepth; rw [if_neg (by omega)]
      have HLT := hide hlt
      clear hcell hN q1 q2 q3 hx hil hlt
      obtain ⟨d, hd⟩ : ∃ d, flatDepth i = d := ⟨_, rfl⟩
      have hd2 : d = 0 ∨ d = 1 := by unfold flatDepth at hd; split at hd <;> omega
      rw [hd]
      clear hd
      go_wp2_with fail
      refine name_codeY fun W hW => ?_
      have C1 : Chg [] wr W := by subst hW; (repeat' (first | with_reducible exact Chg.refl _ _ | with_reducible refine Chg.alloc ?_ _ | with_reducible refine Chg.drew ?_ | with_reducible refine Chg.drewN ?_ _ | with_reducible refine Chg.set_ ?_ _ _ (by first | (simp; done) | (simp; omega) | omega)))
      have K : Blk W wr.heap.size 61 #[.int .i64 x.k, .string ⟨x.s.toArray⟩, .string ⟨x.nm.toArray⟩, .slice a1 x.pipe.length c1, .slice a2 0 c2, .slice a3 0 c3, .int .i64 x.pos, .int .i64 x.esc, .int .i64 x.unit] := by subst hW; (repeat' (first | with_reducible exact Blk.new_ (by first | rfl | (simp; done) | (simp; omega)) | with_reducible refine Blk.alloc_ ?_ | with_reducible refine Blk.drew ?_ | with_reducible refine Blk.drewN ?_ _ | with_reducible refine Blk.far_ ?_ (by first | (simp; done) | (simp; omega) | omega) | with_reducible apply Blk.set_eq | rfl))
      have HC1 := hide C1
      have HK := hide K
      clear hW f0 f1 f2 f3 f4 f5 f6 f7 f8 C1 K
      rcases hd2 with rfl | rfl
      all_goals
        refine wp_region_below (W := W) (by kernel_rfl) (by kernel_rfl) (Below.refl _ _) ?_
        repeat (first
          | go_big_quiet_skip
          | (apply wpQuiet_one (by rfl)
             · intro w' hw'
               have K' := HK.out.chg (Chg.of_below (S := []) hw') (by simp)
               have y4 := K'.cell 4; have y5 := K'.cell 5
               simp at y4 y5
               clear K'
               go_simp
               first
                 | done
                 | (go_at_call 49; exact Calls.below_same hw' (depthP0 _ _ _))
                 | rfl
             · go_simp
               rfl))
        refine wpQuiet_nil ?_
        intro w' hw'
        go_wp2_with fail
        have hlt := HLT.out
        go_roundw
        case rel => exact ⟨i + 1, by go_num, by rw [hnx]; rfl, by omega, hide (hJ.out.trans ((HC1.out.trans (Chg.of_below (S := []) hw') (by simp)).bel.mono hJ.out.size))⟩
        case measure => simp [intOf]; omega
    · obtain rfl : i = l.length := by omega
      have hif : decide ((l.length : Int) < (l.length : Int)) = false := by simp
      clear hil hlt
      go_wp2_with fail
      go_ret
      exact ⟨rfl, hJ.out⟩
end Go.Proofs.YtnepogddjinpoaaGreatDoor
