/-
  The page's example a{{"b"}}c: its action's words.
-/
import Derived.Test.YtnepogddjinpoaaGreatDoorExItems
import Derived.Test.YtnepogddjinpoaaGreatDoorRefLow
import Derived.Test.YtnepogddjinpoaaGreatDoorRefChr
namespace Go.Proofs.YtnepogddjinpoaaGreatDoor
open Go.RowKit
set_option linter.unusedVariables false
set_option linter.unusedSimpArgs false

set_option maxHeartbeats 1000000 in
set_option maxRecDepth 100000 in
theorem below_stepE {w w1 w2 : World} (h1 : Below w.heap.size w w1) (h2 : Below w1.heap.size w1 w2) : Below w.heap.size w w2 := h1.trans (h2.mono h1.size)
set_option maxHeartbeats 1000000 in
set_option maxRecDepth 100000 in
theorem skip_w0 (w : World) : Calls Tryz.prog 68 #[.string ⟨#[34, 98, 34]⟩, .int .i64 0] w fun e w' => e = .returned (.int .i64 0) ∧ w = w' := by
  have h0 : isBlank ((⟨#[34, 98, 34]⟩ : ByteArray)[0]'(by decide)) = false := by decide +kernel
  go_enter Tryz.func68, Tryz.ntmps68
  go_wp2_with fail
  refine wp_loop_rounds 1 ?_
  rw [rounds_succ]
  go_wp2_with (go_at_call 71; refine (refBlankE_any _ _).mono ?_; rintro e w1 ⟨rfl, rfl⟩)
  go_ret
  exact ⟨rfl, rfl⟩
set_option maxHeartbeats 1000000 in
set_option maxRecDepth 100000 in
theorem skip_w3 (w : World) : Calls Tryz.prog 68 #[.string ⟨#[34, 98, 34]⟩, .int .i64 3] w fun e w' => e = .returned (.int .i64 3) ∧ w = w' := by
  go_enter Tryz.func68, Tryz.ntmps68
  go_wp2_with fail
  refine wp_loop_rounds 1 ?_
  rw [rounds_succ]
  go_wp2_with fail
  go_ret
  exact ⟨rfl, rfl⟩
set_option maxHeartbeats 1000000 in
set_option maxRecDepth 100000 in
theorem begin_w (w : World) : Calls Tryz.prog 139 #[.string ⟨#[34, 98, 34]⟩, .int .i64 0] w fun e w' => e = .returned (.bool false) ∧ w = w' := by
  have h0 : isLetter ((⟨#[34, 98, 34]⟩ : ByteArray)[0]'(by decide)) = false := by decide +kernel
  go_enter Tryz.func139, Tryz.ntmps139
  go_wp2_with (go_at_call 112; refine (refLet_any _ _).mono ?_; rintro e w1 ⟨rfl, rfl⟩)
  go_ret
  exact ⟨rfl, rfl⟩
set_option maxHeartbeats 4000000 in
set_option maxRecDepth 100000 in
theorem str_w (w : World) : Calls Tryz.prog 143 #[.string ⟨#[34, 98, 34]⟩, .int .i64 0] w fun e w' => e = .returned (.tuple #[.string ⟨#[98]⟩, .int .i64 3, .int .i64 0, .int .i64 0]) ∧ Below w.heap.size w w' := by
  obtain ⟨i0, hi, hz0, hz1, hz2⟩ := info_parts info_octL
  have f1 : ((((⟨#[34, 98, 34]⟩ : ByteArray)[1]'(by decide)).toNat : Int) == 34) = false := by decide +kernel
  have f2 : ((((⟨#[34, 98, 34]⟩ : ByteArray)[1]'(by decide)).toNat : Int) == 10) = false := by decide +kernel
  have f3 : ((((⟨#[34, 98, 34]⟩ : ByteArray)[1]'(by decide)).toNat : Int) == 92) = false := by decide +kernel
  have f4 : ((((⟨#[34, 98, 34]⟩ : ByteArray)[2]'(by decide)).toNat : Int) == 34) = true := by decide +kernel
  go_enter Tryz.func143, Tryz.ntmps143
  go_wp2_with fail
  refine wp_loop_rounds 2 ?_
  rw [rounds_succ]
  go_wp2_with (at_builtin; refine wpList_append_own _ rfl _ _ 119 rfl w.heap.size 5 i0 (.int .u8 0) 1 1 Tryz.underlying119 hi hz0 hz1 hz2 rfl (by decide) _ 0 _ rfl (World.ownsRow_nil _ _ _ _) ⟨w.heap.size, 0, none⟩ 1 1 [.int .u8 (((⟨#[34, 98, 34]⟩ : ByteArray)[1]'(by decide)).toNat : Int)] rfl rfl (by intro j u hj; match j, hj with | 0, hj => simp at hj; subst hj; simp [Addr.add]) (by intro u hu; simp at hu; subst hu; rfl) (by unfold maxLen; omega) (by omega) (by simp) ?_; intro v1 w1 hown1 hgrow1 _)
  obtain ⟨A1, c1, rfl⟩ := own_sliceE hown1
  have hb1 := ((Below.refl w.heap.size w).alloc (Nat.le_refl _) (.cells #[.int .u8 (((⟨#[34, 98, 34]⟩ : ByteArray)[1]'(by decide)).toNat : Int)] 5)).grown hgrow1 (by simp) (fun j hj => by cases hj)
  have hcv := conv_ownL (l := [(⟨#[34, 98, 34]⟩ : ByteArray)[1]'(by decide)]) hown1
  rw [rounds_succ]
  go_wp2_with fail
  simp [bodyPost, results, Tryz.results143, go_sem]
  first | exact ⟨rfl, hb1⟩ | exact hb1
def exWords : List Value := [.int .i64 5, .string ⟨#[98]⟩, .int .i64 1]
set_option maxHeartbeats 4000000 in
set_option maxRecDepth 100000 in
theorem word_w (w : World) : Calls Tryz.prog 110 #[.string ⟨#[34, 98, 34]⟩, .int .i64 0] w fun e w' => e = .returned (.tuple #[.agg #[.int .i64 5, .string ⟨#[98]⟩, .int .i64 0], .int .i64 3, .int .i64 0, .int .i64 0]) ∧ Below w.heap.size w w' := by
  have d0 : isDig ((⟨#[34, 98, 34]⟩ : ByteArray)[0]'(by decide)) = false := by decide +kernel
  have f1 : ((((⟨#[34, 98, 34]⟩ : ByteArray)[0]'(by decide)).toNat : Int) == 46) = false := by decide +kernel
  have f2 : ((((⟨#[34, 98, 34]⟩ : ByteArray)[0]'(by decide)).toNat : Int) == 36) = false := by decide +kernel
  have f3 : ((((⟨#[34, 98, 34]⟩ : ByteArray)[0]'(by decide)).toNat : Int) == 45) = false := by decide +kernel
  have f4 : ((((⟨#[34, 98, 34]⟩ : ByteArray)[0]'(by decide)).toNat : Int) == 34) = true := by decide +kernel
  go_enter Tryz.func110, Tryz.ntmps110
  go_wp2_with (first | (go_at_call 139; refine (begin_w _).mono ?_; rintro e w1 ⟨rfl, rfl⟩) | (go_at_call 113; refine (refDig_any _ _).mono ?_; rintro e w1 ⟨rfl, rfl⟩))
  have K0 := (Blk.new w 153 #[.int .i64 0, .string ⟨#[]⟩, .int .i64 0]).alloc (.cells #[.int .i64 6, .string ⟨#[]⟩, .int .i64 0] 153)
  have hb0 := ((Below.refl w.heap.size w).alloc (Nat.le_refl _) (.cells #[.int .i64 0, .string ⟨#[]⟩, .int .i64 0] 153)).alloc (by simp) (.cells #[.int .i64 6, .string ⟨#[]⟩, .int .i64 0] 153)
  refine (str_w _).mono ?_
  rintro e w3 ⟨rfl, hb3⟩
  have K3 := K0.below hb3 K0.lt
  have r0 := K3.cell 0; have r1 := K3.cell 1; have r2 := K3.cell 2
  have z0 := K3.frozen 0; have z1 := K3.frozen 1; have z2 := K3.frozen 2
  simp at r0 r1 r2
  have l3 := K3.lt
  have hb4 := below_stepE hb0 hb3
  clear K0 hb3 hb0
  go_wp2_with fail
  have K5 := ((K3.set_ 0 (.int .i64 5)).set_ 1 (.string ⟨#[98]⟩)).set_ 2 (.int .i64 0)
  have hb5 := ((hb4.setCell (p := ⟨w.heap.size, 0, none⟩) (Nat.le_refl _) (.int .i64 5)).setCell (p := ⟨w.heap.size, 1, none⟩) (Nat.le_refl _) (.string ⟨#[98]⟩)).setCell (p := ⟨w.heap.size, 2, none⟩) (Nat.le_refl _) (.int .i64 0)
  simp only [Array.setIfInBounds] at K5
  generalize ((w3.setCell ⟨w.heap.size, 0, none⟩ (.int .i64 5)).setCell ⟨w.heap.size, 1, none⟩ (.string ⟨#[98]⟩)).setCell ⟨w.heap.size, 2, none⟩ (.int .i64 0) = w5 at K5 hb5 ⊢
  have o0 := K5.cell 0; have o1 := K5.cell 1; have o2 := K5.cell 2
  simp at o0 o1 o2
  simp [bodyPost, results, Tryz.results110, go_sem, o0, o1, o2]
  first | exact ⟨rfl, hb5⟩ | exact hb5
theorem info_word : (Tryz.prog.info? 153).map (fun i => (i.zero, i.size, i.bytes)) = some (some (.agg #[.int .i64 0, .string ⟨#[]⟩, .int .i64 0]), 3, 32) := by kernel_rfl
set_option maxHeartbeats 4000000 in
set_option maxRecDepth 100000 in
theorem words_w (w : World) : Calls Tryz.prog 92 #[.string ⟨#[34, 98, 34]⟩, .int .i64 1] w fun e w' => ∃ v, e = .returned (.tuple #[v, .int .i64 1, .int .i64 0]) ∧ w'.ownsRow w.heap.size 153 3 v 1 exWords ∧ Below w.heap.size w w' := by
  obtain ⟨i0, hi, hz0, hz1, hz2⟩ := info_parts info_word
  go_enter Tryz.func92, Tryz.ntmps92
  go_wp2_with (go_at_call 68; refine (skip_w0 _).mono ?_; rintro e w1 ⟨rfl, rfl⟩)
  refine wp_loop_rounds 2 ?_
  rw [rounds_succ]
  go_wp2_with fail
  refine (word_w _).mono ?_
  rintro e w1 ⟨rfl, hb1⟩
  have hb3 := hb1.alloc hb1.size (.cells #[.int .i64 5, .string ⟨#[98]⟩, .int .i64 1] 153)
  have hs3 := hb3.size
  go_wp2_with (at_builtin; refine wpList_append_own _ rfl _ _ 105 rfl w.heap.size 153 i0 (.agg #[.int .i64 0, .string ⟨#[]⟩, .int .i64 0]) 3 32 Tryz.underlying105 hi hz0 hz1 hz2 rfl (by decide) _ 0 _ rfl (World.ownsRow_nil _ _ _ _) ⟨w1.heap.size + 1, 0, none⟩ 1 1 [.int .i64 5, .string ⟨#[98]⟩, .int .i64 1] rfl rfl (by intro j u hj; match j, hj with | 0, hj => (simp at hj; subst hj; simp [Addr.add]) | 1, hj => (simp at hj; subst hj; simp [Addr.add]) | 2, hj => (simp at hj; subst hj; simp [Addr.add])) (by intro u hu; simp at hu; rcases hu with rfl | rfl | rfl <;> rfl) (by unfold maxLen; omega) (by omega) (by have := hb1.size; simp; omega) ?_; intro v1 w4 hown4 hgrow4 _)
  obtain ⟨A4, c4, rfl⟩ := own_sliceE hown4
  have hb4 := (hb3.alloc hb3.size (.cells #[.int .i64 5, .string ⟨#[98]⟩, .int .i64 1] 153)).grown hgrow4 (by have := hb1.size; simp; omega) (fun j hj => by cases hj)
  refine (skip_w3 _).mono ?_
  rintro e w5 ⟨rfl, rfl⟩
  go_wp2_with fail
  rw [rounds_succ]
  go_wp2_with fail
  go_ret3
  exact ⟨_, rfl, hown4, hb4⟩
end Go.Proofs.YtnepogddjinpoaaGreatDoor
