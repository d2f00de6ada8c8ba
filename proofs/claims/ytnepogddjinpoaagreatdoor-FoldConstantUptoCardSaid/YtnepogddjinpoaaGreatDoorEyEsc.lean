/-
  refs.Escape, filters.Plain and Apply at "b".
-/
import Derived.Test.YtnepogddjinpoaaGreatDoorM3
import Derived.Test.YtnepogddjinpoaaGreatDoorRepair
import Derived.Test.YtnepogddjinpoaaGreatDoorBytes
import Derived.Test.YtnepogddjinpoaaGreatDoorBuildT
namespace Go.Proofs.YtnepogddjinpoaaGreatDoor
open Go.RowKit
set_option linter.unusedVariables false
set_option linter.unusedSimpArgs false

theorem repair_b : repairR [98] = [98] := by decide +kernel
set_option maxHeartbeats 1000000 in
set_option maxRecDepth 100000 in
theorem escape_b (w : World) (hT : Lib.Utf8Tabs 1 2 w) : Calls Tryz.prog 106 #[.string bTxt] w fun e w' => e = .returned (.string bTxt) ∧ Below w.heap.size w w' := by
  have HT := hide hT
  clear hT
  go_enter Tryz.func106, Tryz.ntmps106
  go_wp2_with fail
  refine name_world fun W hW => ?_
  have C1 : Chg [] w W := by subst hW; (repeat' (first | with_reducible exact Chg.refl _ _ | with_reducible refine Chg.alloc ?_ _ | with_reducible refine Chg.drew ?_ | with_reducible refine Chg.drewN ?_ _ | with_reducible refine Chg.set_ ?_ _ _ (by first | (simp; done) | (simp; omega) | omega)))
  have hB : IsBT 184 w.heap.size w.heap.size [] W := by subst hW; exact isBT_new _ w _ (Nat.le_refl _)
  clear hW
  have hsW := C1.size
  have cR : Calls Tryz.prog 125 #[.string bTxt] W fun e w' => e = .returned (.string bTxt) ∧ Below W.heap.size W w' := by
    have h := utfRepair_any [98] W (by decide) (Utf8Tabs_below HT.out C1.bel)
    rw [repair_b] at h
    exact h
  refine cR.mono ?_
  rintro e w1 ⟨rfl, hb1⟩
  have hB1 := isBT_keep hB hb1
  have C2 := C1.trans (Chg.of_below (S := []) hb1) (by simp)
  obtain ⟨cap, W1, hcv, hrow, hbel, hlt, hcap⟩ := conv_bytes w1 bTxt
  have hB2 := hide (isBT_keep hB1 hbel)
  have f0 : W1.cell? ⟨w1.heap.size, 0, none⟩ = some (.int .u8 98) := hrow.cell (j := 0) (c := 98) rfl
  have C3 := hide (C2.trans (Chg.of_below (S := []) hbel) (by simp))
  have hsz : (bTxt.size : Nat) = 1 := b_size
  rw [hsz] at hcv
  clear hB hB1 hb1 C1 C2 cR hrow hbel hcap hsW
  go_wp2_with fail
  refine wp_loop_rounds 2 ?_
  rw [rounds_succ]
  go_wp2_with fail
  have hs3 := C3.out.size
  refine (btByte btBuilder w.heap.size w.heap.size [] 98 W1 hB2.out (by decide) hs3).mono ?_
  rintro e w2 ⟨rfl, hB3, hb2, _⟩
  have hb3 : Below w.heap.size w w2 := C3.out.bel.trans hb2
  have hs4 := hb3.size
  go_wp2_with fail
  rw [rounds_succ]
  go_wp2_with fail
  refine (btString w.heap.size w.heap.size [98] w2 hB3 hs4).mono ?_
  rintro e w3 ⟨rfl, hb4⟩
  go_wp2_with fail
  go_ret
  exact ⟨rfl, hb3.trans hb4⟩
set_option maxRecDepth 100000 in
theorem plain_b (w : World) (hT : Lib.Utf8Tabs 1 2 w) : Calls Tryz.prog 108 #[.int .i64 1, .string bTxt] w fun e w' => e = .returned (.string bTxt) ∧ Below w.heap.size w w' := by
  have cE := hide (escape_b w hT)
  clear hT
  go_enter Tryz.func108, Tryz.ntmps108
  go_wp2_with fail
  refine cE.out.mono ?_
  rintro e w1 ⟨rfl, hb1⟩
  go_wp2_with fail
  go_ret
  exact ⟨rfl, hb1⟩
set_option maxHeartbeats 1000000 in
set_option maxRecDepth 100000 in
theorem apply_b (w : World) (hT : Lib.Utf8Tabs 1 2 w) : Calls Tryz.prog 89 #[.int .i64 1, bVal] w fun e w' => e = .returned (.tuple #[.string bTxt, .int .i64 0]) ∧ Below w.heap.size w w' := by
  have HT := hide hT
  clear hT
  go_enter Tryz.func89, Tryz.ntmps89
  go_wp2_with fail
  refine name_world fun W hW => ?_
  have C1 : Chg [] w W := by subst hW; (repeat' (first | with_reducible exact Chg.refl _ _ | with_reducible refine Chg.alloc ?_ _ | with_reducible refine Chg.drew ?_ | with_reducible refine Chg.drewN ?_ _ | with_reducible refine Chg.set_ ?_ _ _ (by first | (simp; done) | (simp; omega) | omega)))
  have K : Blk W w.heap.size 26 #[.int .i64 4, .int .i64 0, .string bTxt, .slice none 0 0, .slice none 0 0] := by subst hW; (repeat' (first | with_reducible exact Blk.new_ (by first | rfl | (simp; done) | (simp; omega)) | with_reducible refine Blk.alloc_ ?_ | with_reducible refine Blk.drew ?_ | with_reducible refine Blk.drewN ?_ _ | with_reducible refine Blk.far_ ?_ (by first | (simp; done) | (simp; omega) | omega) | with_reducible apply Blk.set_eq | rfl))
  clear hW
  refine (check_b W).mono ?_
  rintro e w1 ⟨rfl, hb1⟩
  have C2 := C1.trans (Chg.of_below (S := []) hb1) (by simp)
  have K1 := K.chg (Chg.of_below (S := []) hb1) (by simp)
  have k0 := K1.cell 0; have k1 := K1.cell 1; have k2 := K1.cell 2; have k3 := K1.cell 3; have k4 := K1.cell 4; simp at k0 k1 k2 k3 k4
  clear K hb1 C1 K1
  go_wp2_with (go_at_call 105; refine (safe_b _).mono ?_; rintro e w2 ⟨rfl, rfl⟩)
  refine (told_b w1).mono ?_
  rintro e w3 ⟨rfl, hb3⟩
  have C4 := C2.trans (Chg.of_below (S := []) hb3) (by simp)
  clear C2 hb3 k0 k1 k2 k3 k4
  go_wp2_with fail
  refine (plain_b w3 (Utf8Tabs_below HT.out C4.bel)).mono ?_
  rintro e w4 ⟨rfl, hb4⟩
  have C5 := hide (C4.trans (Chg.of_below (S := []) hb4) (by simp))
  clear C4 hb4
  go_wp2_with fail
  go_ret2
  exact ⟨rfl, C5.out.bel⟩
end Go.Proofs.YtnepogddjinpoaaGreatDoor
