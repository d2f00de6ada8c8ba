/-
  PLAIN LAWS of many texts, in one.
-/
import Derived.Test.YtnepogddjinpoaaGreatDoorProg
import Derived.WalkKit
import Derived.Test.YtnepogddjinpoaaGreatDoorM1
import Derived.LoopN
import Derived.OwnWalk
import Derived.Deep.OwnRows
import Derived.Test.YtnepogddjinpoaaGreatDoorRefLow
import Derived.Test.YtnepogddjinpoaaGreatDoorRefChr
import Derived.Deep.RegionWith
import Derived.Deep.QuietTactic
import Derived.BigQuiet
namespace Go.Proofs.YtnepogddjinpoaaGreatDoor
open Go.RowKit
set_option linter.unusedVariables false
set_option linter.unusedSimpArgs false

theorem blank_orsE (c : UInt8) : isBlank c = ((c.toNat : Int) == 32 || ((c.toNat : Int) == 9 || ((c.toNat : Int) == 10 || ((c.toNat : Int) == 12 || (c.toNat : Int) == 13)))) := by
  have := allBytes (fun c => isBlank c == ((c.toNat : Int) == 32 || ((c.toNat : Int) == 9 || ((c.toNat : Int) == 10 || ((c.toNat : Int) == 12 || (c.toNat : Int) == 13))))) (by decide +kernel) c
  simpa using this

set_option maxHeartbeats 1000000 in
theorem refBlankE_any (c : UInt8) (w : World) : Calls Tryz.prog 71 #[.int .u8 (c.toNat : Int)] w fun e w' => e = .returned (.bool (isBlank c)) ∧ w = w' := by
  have hb := blank_orsE c
  generalize (c.toNat : Int) = x at hb ⊢
  rcases Bool.eq_false_or_eq_true (x == 32) with e0 | e0
  · rw [show isBlank c = true by rw [hb]; simp [e0]]
    clear hb
    go_enter Tryz.func71, Tryz.ntmps71
    go_wp2
    go_ret
    exact ⟨rfl, rfl⟩
  rcases Bool.eq_false_or_eq_true (x == 9) with e1 | e1
  · rw [show isBlank c = true by rw [hb]; simp [e0, e1]]
    clear hb
    go_enter Tryz.func71, Tryz.ntmps71
    go_wp2
    go_ret
    exact ⟨rfl, rfl⟩
  rcases Bool.eq_false_or_eq_true (x == 10) with e2 | e2
  · rw [show isBlank c = true by rw [hb]; simp [e0, e1, e2]]
    clear hb
    go_enter Tryz.func71, Tryz.ntmps71
    go_wp2
    go_ret
    exact ⟨rfl, rfl⟩
  rcases Bool.eq_false_or_eq_true (x == 12) with e3 | e3
  · rw [show isBlank c = true by rw [hb]; simp [e0, e1, e2, e3]]
    clear hb
    go_enter Tryz.func71, Tryz.ntmps71
    go_wp2
    go_ret
    exact ⟨rfl, rfl⟩
  rcases Bool.eq_false_or_eq_true (x == 13) with e4 | e4
  · rw [show isBlank c = true by rw [hb]; simp [e0, e1, e2, e3, e4]]
    clear hb
    go_enter Tryz.func71, Tryz.ntmps71
    go_wp2
    go_ret
    exact ⟨rfl, rfl⟩
  rw [show isBlank c = false by rw [hb]; simp [e0, e1, e2, e3, e4]]
  clear hb
  go_enter Tryz.func71, Tryz.ntmps71
  go_wp2
  go_ret
  exact ⟨rfl, rfl⟩



set_option maxHeartbeats 1000000 in
set_option maxRecDepth 100000 in
theorem find_ex1 (w : World) : Calls Tryz.prog 67 #[.string ⟨#[97, 123, 123, 34, 98, 34, 125, 125, 99]⟩, .string ⟨#[123, 123]⟩] w fun e w' => e = .returned (.int .i64 1) ∧ w = w' := by
  have h0 : (((⟨#[97, 123, 123, 34, 98, 34, 125, 125, 99]⟩ : ByteArray).extract 0 2).toList == [123, 123]) = false := by decide +kernel
  have h1 : (((⟨#[97, 123, 123, 34, 98, 34, 125, 125, 99]⟩ : ByteArray).extract 1 3).toList == [123, 123]) = true := by decide +kernel
  go_enter Tryz.func67, Tryz.ntmps67
  go_wp2_with fail
  refine wp_loop_rounds 2 ?_
  rw [rounds_succ]
  go_wp2_with fail
  rw [rounds_succ]
  go_wp2_with fail
  go_ret
  exact ⟨by first | rfl | (simp only [h0, h1]; rfl) | (simp [h0, h1]; done), rfl⟩
set_option maxHeartbeats 1000000 in
set_option maxRecDepth 100000 in
theorem find_ex2 (w : World) : Calls Tryz.prog 67 #[.string ⟨#[99]⟩, .string ⟨#[123, 123]⟩] w fun e w' => e = .returned (.int .i64 (-1)) ∧ w = w' := by
  go_enter Tryz.func67, Tryz.ntmps67
  go_wp2_with fail
  refine wp_loop_rounds 1 ?_
  rw [rounds_succ]
  go_wp2_with fail
  go_ret
  exact ⟨by first | rfl | (simp only []; rfl) | (simp []; done), rfl⟩
set_option maxHeartbeats 1000000 in
set_option maxRecDepth 100000 in
theorem begins_m (w : World) : Calls Tryz.prog 69 #[.string ⟨#[45]⟩, .string ⟨#[34, 98, 34, 125, 125, 99]⟩] w fun e w' => e = .returned (.bool false) ∧ w = w' := by
  have h0 : (((⟨#[34, 98, 34, 125, 125, 99]⟩ : ByteArray).extract 0 1).toList == [45]) = false := by decide +kernel
  go_enter Tryz.func69, Tryz.ntmps69
  go_wp2_with fail
  go_ret
  exact ⟨by first | rfl | (simp only [h0]; rfl) | (simp [h0]; done), rfl⟩
set_option maxHeartbeats 1000000 in
set_option maxRecDepth 100000 in
theorem begins_r (w : World) : Calls Tryz.prog 69 #[.string ⟨#[47, 42]⟩, .string ⟨#[34, 98, 34, 125, 125, 99]⟩] w fun e w' => e = .returned (.bool false) ∧ w = w' := by
  have h0 : (((⟨#[34, 98, 34, 125, 125, 99]⟩ : ByteArray).extract 0 2).toList == [47, 42]) = false := by decide +kernel
  go_enter Tryz.func69, Tryz.ntmps69
  go_wp2_with fail
  go_ret
  exact ⟨by first | rfl | (simp only [h0]; rfl) | (simp [h0]; done), rfl⟩
set_option maxHeartbeats 1000000 in
set_option maxRecDepth 100000 in
theorem begins_e (w : World) : Calls Tryz.prog 69 #[.string ⟨#[125, 125]⟩, .string ⟨#[125, 125, 99]⟩] w fun e w' => e = .returned (.bool true) ∧ w = w' := by
  have h0 : (((⟨#[125, 125, 99]⟩ : ByteArray).extract 0 2).toList == [125, 125]) = true := by decide +kernel
  go_enter Tryz.func69, Tryz.ntmps69
  go_wp2_with fail
  go_ret
  exact ⟨by first | rfl | (simp only [h0]; rfl) | (simp [h0]; done), rfl⟩
set_option maxHeartbeats 1000000 in
set_option maxRecDepth 100000 in
theorem skip_ex (w : World) : Calls Tryz.prog 68 #[.string ⟨#[97, 123, 123, 34, 98, 34, 125, 125, 99]⟩, .int .i64 3] w fun e w' => e = .returned (.int .i64 3) ∧ w = w' := by
  have h0 : isBlank ((⟨#[97, 123, 123, 34, 98, 34, 125, 125, 99]⟩ : ByteArray)[3]'(by decide)) = false := by decide +kernel
  go_enter Tryz.func68, Tryz.ntmps68
  go_wp2_with (first | (go_at_call 71; refine (refBlankE_any _ _).mono ?_; rintro e w1 ⟨rfl, rfl⟩))
  refine wp_loop_rounds 1 ?_
  rw [rounds_succ]
  go_wp2_with (first | (go_at_call 71; refine (refBlankE_any _ _).mono ?_; rintro e w1 ⟨rfl, rfl⟩))
  go_ret
  exact ⟨by first | rfl | (simp only [h0]; rfl) | (simp [h0]; done), rfl⟩
set_option maxHeartbeats 4000000 in
set_option maxRecDepth 100000 in
theorem closes_ex (w : World) : Calls Tryz.prog 70 #[.string ⟨#[97, 123, 123, 34, 98, 34, 125, 125, 99]⟩, .int .i64 3] w fun e w' => e = .returned (.int .i64 6) ∧ w = w' := by
  go_enter Tryz.func70, Tryz.ntmps70
  go_wp2_with (first | (go_at_call 69; refine (begins_e _).mono ?_; rintro e w1 ⟨rfl, rfl⟩))
  refine wp_loop_rounds 4 ?_
  rw [rounds_succ]
  go_wp2_with (first | (go_at_call 69; refine (begins_e _).mono ?_; rintro e w1 ⟨rfl, rfl⟩))
  rw [rounds_succ]
  go_wp2_with (first | (go_at_call 69; refine (begins_e _).mono ?_; rintro e w1 ⟨rfl, rfl⟩))
  rw [rounds_succ]
  go_wp2_with (first | (go_at_call 69; refine (begins_e _).mono ?_; rintro e w1 ⟨rfl, rfl⟩))
  rw [rounds_succ]
  go_wp2_with (first | (go_at_call 69; refine (begins_e _).mono ?_; rintro e w1 ⟨rfl, rfl⟩))
  go_ret
  exact ⟨by first | rfl | (simp only []; rfl) | (simp []; done), rfl⟩
set_option maxHeartbeats 1000000 in
set_option maxRecDepth 100000 in
theorem trim_ex (w : World) : Calls Tryz.prog 73 #[.string ⟨#[34, 98, 34]⟩] w fun e w' => e = .returned (.string ⟨#[34, 98, 34]⟩) ∧ w = w' := by
  have h0 : isBlank ((⟨#[34, 98, 34]⟩ : ByteArray)[0]'(by decide)) = false := by decide +kernel
  have h1 : isBlank ((⟨#[34, 98, 34]⟩ : ByteArray)[2]'(by decide)) = false := by decide +kernel
  go_enter Tryz.func73, Tryz.ntmps73
  go_wp2_with (first | (go_at_call 71; refine (refBlankE_any _ _).mono ?_; rintro e w1 ⟨rfl, rfl⟩))
  refine wp_loop_rounds 1 ?_
  rw [rounds_succ]
  go_wp2_with (first | (go_at_call 71; refine (refBlankE_any _ _).mono ?_; rintro e w1 ⟨rfl, rfl⟩))
  refine wp_loop_rounds 1 ?_
  rw [rounds_succ]
  go_wp2_with (first | (go_at_call 71; refine (refBlankE_any _ _).mono ?_; rintro e w1 ⟨rfl, rfl⟩))
  go_ret
  exact ⟨by first | rfl | (simp only [h0, h1]; rfl) | (simp [h0, h1]; done), rfl⟩
end Go.Proofs.YtnepogddjinpoaaGreatDoor

namespace Go.Proofs.YtnepogddjinpoaaGreatDoor
open Go.RowKit
set_option linter.unusedVariables false
set_option linter.unusedSimpArgs false

theorem info_item : (Tryz.prog.info? 132).map (fun i => (i.zero, i.size, i.bytes)) = some (some (.agg #[.int .i64 0, .string ⟨#[]⟩, .int .i64 0]), 3, 32) := by kernel_rfl
def exItems : List Value := [.int .i64 1, .string ⟨#[97]⟩, .int .i64 0, .int .i64 2, .string ⟨#[34, 98, 34]⟩, .int .i64 1, .int .i64 1, .string ⟨#[99]⟩, .int .i64 8]
theorem own_sliceE {w : World} {base n size : Nat} {e : TypeId} {v : Value} {xs : List Value} (h : w.ownsRow base e size v n xs) : ∃ A c, v = .slice A n c := by
  rcases h.2 with ⟨rfl, rfl⟩ | ⟨g, cap, cur, rfl, _⟩
  · exact ⟨_, _, rfl⟩
  · exact ⟨_, _, rfl⟩
set_option maxHeartbeats 4000000 in
set_option maxRecDepth 100000 in
theorem items_ex (w : World) : Calls Tryz.prog 54 #[.string ⟨#[97, 123, 123, 34, 98, 34, 125, 125, 99]⟩] w fun e w' => ∃ v, e = .returned (.tuple #[v, .int .i64 9, .int .i64 0]) ∧ w'.ownsRow w.heap.size 132 3 v 3 exItems ∧ Below w.heap.size w w' := by
  obtain ⟨i0, hi, hz0, hz1, hz2⟩ := info_parts info_item
  go_enter Tryz.func54, Tryz.ntmps54
  go_wp2_with fail
  refine wp_loop_rounds 2 ?_
  rw [rounds_succ]
  go_wp2_with (go_at_call 67; refine (find_ex1 _).mono ?_; rintro e w1 ⟨rfl, rfl⟩)
  rw [show ((⟨#[]⟩ : ByteArray) ++ (⟨#[97, 123, 123, 34, 98, 34, 125, 125, 99]⟩ : ByteArray).extract 0 1) = ⟨#[97]⟩ by rfl]
  refine (begins_m _).mono ?_
  rintro e w1 ⟨rfl, rfl⟩
  go_wp2_with (go_at_call 68; refine (skip_ex _).mono ?_; rintro e w1 ⟨rfl, rfl⟩)
  refine (begins_r _).mono ?_
  rintro e w1 ⟨rfl, rfl⟩
  go_wp2_with (first | (go_at_call 70; refine (closes_ex _).mono ?_; rintro e w1 ⟨rfl, rfl⟩) | (at_builtin; refine wpList_append_own _ rfl _ _ 97 rfl w.heap.size 132 i0 (.agg #[.int .i64 0, .string ⟨#[]⟩, .int .i64 0]) 3 32 Tryz.underlying97 hi hz0 hz1 hz2 rfl (by decide) _ 0 _ rfl (World.ownsRow_nil _ _ _ _) ⟨w.heap.size, 0, none⟩ 1 1 [.int .i64 1, .string ⟨#[97]⟩, .int .i64 0] rfl rfl (by intro j u hj; match j, hj with | 0, hj => (simp at hj; subst hj; simp [Addr.add]) | 1, hj => (simp at hj; subst hj; simp [Addr.add]) | 2, hj => (simp at hj; subst hj; simp [Addr.add])) (by intro u hu; simp at hu; rcases hu with rfl | rfl | rfl <;> rfl) (by unfold maxLen; omega) (by omega) (by simp) ?_; intro v1 w1 hown1 hgrow1 _))
  have hb1 := ((Below.refl w.heap.size w).alloc (Nat.le_refl _) (.cells #[.int .i64 1, .string ⟨#[97]⟩, .int .i64 0] 132)).grown hgrow1 (by simp) (fun j hj => by cases hj)
  obtain ⟨A1, c1, rfl⟩ := own_sliceE hown1
  have hs1 := hb1.size
  refine (trim_ex _).mono ?_
  rintro e w2 ⟨rfl, rfl⟩
  go_wp2_with (first | (at_builtin; refine wpList_append_own _ rfl _ _ 97 rfl w.heap.size 132 i0 (.agg #[.int .i64 0, .string ⟨#[]⟩, .int .i64 0]) 3 32 Tryz.underlying97 hi hz0 hz1 hz2 rfl (by decide) _ 1 _ rfl (hown1.alloc _) ⟨w1.heap.size, 0, none⟩ 1 1 [.int .i64 2, .string ⟨#[34, 98, 34]⟩, .int .i64 1] rfl rfl (by intro j u hj; match j, hj with | 0, hj => (simp at hj; subst hj; simp [Addr.add]) | 1, hj => (simp at hj; subst hj; simp [Addr.add]) | 2, hj => (simp at hj; subst hj; simp [Addr.add])) (by intro u hu; simp at hu; rcases hu with rfl | rfl | rfl <;> rfl) (by unfold maxLen; omega) (by omega) (by simp; omega) ?_; intro v2 w2 hown2 hgrow2 _))
  obtain ⟨A2, c2, rfl⟩ := own_sliceE hown2
  have hb2 := (hb1.alloc hb1.size (.cells #[.int .i64 2, .string ⟨#[34, 98, 34]⟩, .int .i64 1] 132)).grown hgrow2 (by simp; omega) (fun j hj => (hown1.lt j hj).1)
  have hs2 := hb2.size
  rw [rounds_succ]
  have hTT : ((⟨#[]⟩ : ByteArray) ++ (⟨#[97, 123, 123, 34, 98, 34, 125, 125, 99]⟩ : ByteArray).extract 8 9).toList.isEmpty = false := by decide +kernel
  go_wp2_with (first | (go_at_call 67; refine (find_ex2 _).mono ?_; rintro e w1 ⟨rfl, rfl⟩) | (at_builtin; refine wpList_append_own _ rfl _ _ 97 rfl w.heap.size 132 i0 (.agg #[.int .i64 0, .string ⟨#[]⟩, .int .i64 0]) 3 32 Tryz.underlying97 hi hz0 hz1 hz2 rfl (by decide) _ 2 _ rfl (hown2.alloc _) ⟨w2.heap.size, 0, none⟩ 1 1 [.int .i64 1, .string ((⟨#[]⟩ : ByteArray) ++ (⟨#[97, 123, 123, 34, 98, 34, 125, 125, 99]⟩ : ByteArray).extract 8 9), .int .i64 8] rfl rfl (by intro j u hj; match j, hj with | 0, hj => (simp at hj; subst hj; simp [Addr.add]) | 1, hj => (simp at hj; subst hj; simp [Addr.add]) | 2, hj => (simp at hj; subst hj; simp [Addr.add])) (by intro u hu; simp at hu; rcases hu with rfl | rfl | rfl <;> rfl) (by unfold maxLen; omega) (by omega) (by simp; omega) ?_; intro v3 w3 hown3 hgrow3 _))
  have hb3 := (hb2.alloc hb2.size (.cells #[.int .i64 1, .string ((⟨#[]⟩ : ByteArray) ++ (⟨#[97, 123, 123, 34, 98, 34, 125, 125, 99]⟩ : ByteArray).extract 8 9), .int .i64 8] 132)).grown hgrow3 (by simp; omega) (fun j hj => (hown2.lt j hj).1)
  go_ret3
  exact ⟨_, rfl, hown3, hb3⟩
end Go.Proofs.YtnepogddjinpoaaGreatDoor

namespace Go.Proofs.YtnepogddjinpoaaGreatDoor
open Go.RowKit
set_option linter.unusedVariables false
set_option linter.unusedSimpArgs false

set_option maxHeartbeats 1000000 in
set_option maxRecDepth 100000 in
theorem below_stepE {w w1 w2 : World} (h1 : Below w.heap.size w w1) (h2 : Below w1.heap.size w1 w2) : Below w.heap.size w w2 := h1.trans (h2.mono h1.size)
set_option maxHeartbeats 1000000 in
set_option maxRecDepth 100000 in
theorem skip_w0 (w : World) : Calls Tryz.prog 68 #[.string ⟨#[34, 98, 34]⟩, .int .i64 0] w fun e w' => e = .returned (.int .i64 0) ∧ w = w' := by
  have h0 : isBlank ((⟨#[34, 98, 34]⟩ : ByteArray)[0]'(by decide)) = false := by decide +kernel
  go_enter Tryz.func68, Tryz.ntmps68
  go_wp2_with fail
  refine wp_loop_rounds 1 ?_
  rw [rounds_succ]
  go_wp2_with (go_at_call 71; refine (refBlankE_any _ _).mono ?_; rintro e w1 ⟨rfl, rfl⟩)
  go_ret
  exact ⟨rfl, rfl⟩
set_option maxHeartbeats 1000000 in
set_option maxRecDepth 100000 in
theorem skip_w3 (w : World) : Calls Tryz.prog 68 #[.string ⟨#[34, 98, 34]⟩, .int .i64 3] w fun e w' => e = .returned (.int .i64 3) ∧ w = w' := by
  go_enter Tryz.func68, Tryz.ntmps68
  go_wp2_with fail
  refine wp_loop_rounds 1 ?_
  rw [rounds_succ]
  go_wp2_with fail
  go_ret
  exact ⟨rfl, rfl⟩
set_option maxHeartbeats 1000000 in
set_option maxRecDepth 100000 in
theorem begin_w (w : World) : Calls Tryz.prog 139 #[.string ⟨#[34, 98, 34]⟩, .int .i64 0] w fun e w' => e = .returned (.bool false) ∧ w = w' := by
  have h0 : isLetter ((⟨#[34, 98, 34]⟩ : ByteArray)[0]'(by decide)) = false := by decide +kernel
  go_enter Tryz.func139, Tryz.ntmps139
  go_wp2_with (go_at_call 112; refine (refLet_any _ _).mono ?_; rintro e w1 ⟨rfl, rfl⟩)
  go_ret
  exact ⟨rfl, rfl⟩
set_option maxHeartbeats 4000000 in
set_option maxRecDepth 100000 in
theorem str_w (w : World) : Calls Tryz.prog 143 #[.string ⟨#[34, 98, 34]⟩, .int .i64 0] w fun e w' => e = .returned (.tuple #[.string ⟨#[98]⟩, .int .i64 3, .int .i64 0, .int .i64 0]) ∧ Below w.heap.size w w' := by
  obtain ⟨i0, hi, hz0, hz1, hz2⟩ := info_parts info_octL
  have f1 : ((((⟨#[34, 98, 34]⟩ : ByteArray)[1]'(by decide)).toNat : Int) == 34) = false := by decide +kernel
  have f2 : ((((⟨#[34, 98, 34]⟩ : ByteArray)[1]'(by decide)).toNat : Int) == 10) = false := by decide +kernel
  have f3 : ((((⟨#[34, 98, 34]⟩ : ByteArray)[1]'(by decide)).toNat : Int) == 92) = false := by decide +kernel
  have f4 : ((((⟨#[34, 98, 34]⟩ : ByteArray)[2]'(by decide)).toNat : Int) == 34) = true := by decide +kernel
  go_enter Tryz.func143, Tryz.ntmps143
  go_wp2_with fail
  refine wp_loop_rounds 2 ?_
  rw [rounds_succ]
  go_wp2_with (at_builtin; refine wpList_append_own _ rfl _ _ 119 rfl w.heap.size 5 i0 (.int .u8 0) 1 1 Tryz.underlying119 hi hz0 hz1 hz2 rfl (by decide) _ 0 _ rfl (World.ownsRow_nil _ _ _ _) ⟨w.heap.size, 0, none⟩ 1 1 [.int .u8 (((⟨#[34, 98, 34]⟩ : ByteArray)[1]'(by decide)).toNat : Int)] rfl rfl (by intro j u hj; match j, hj with | 0, hj => simp at hj; subst hj; simp [Addr.add]) (by intro u hu; simp at hu; subst hu; rfl) (by unfold maxLen; omega) (by omega) (by simp) ?_; intro v1 w1 hown1 hgrow1 _)
  obtain ⟨A1, c1, rfl⟩ := own_sliceE hown1
  have hb1 := ((Below.refl w.heap.size w).alloc (Nat.le_refl _) (.cells #[.int .u8 (((⟨#[34, 98, 34]⟩ : ByteArray)[1]'(by decide)).toNat : Int)] 5)).grown hgrow1 (by simp) (fun j hj => by cases hj)
  have hcv := conv_ownL (l := [(⟨#[34, 98, 34]⟩ : ByteArray)[1]'(by decide)]) hown1
  rw [rounds_succ]
  go_wp2_with fail
  simp [bodyPost, results, Tryz.results143, go_sem]
  first | exact ⟨rfl, hb1⟩ | exact hb1
def exWords : List Value := [.int .i64 5, .string ⟨#[98]⟩, .int .i64 1]
set_option maxHeartbeats 4000000 in
set_option maxRecDepth 100000 in
theorem word_w (w : World) : Calls Tryz.prog 110 #[.string ⟨#[34, 98, 34]⟩, .int .i64 0] w fun e w' => e = .returned (.tuple #[.agg #[.int .i64 5, .string ⟨#[98]⟩, .int .i64 0], .int .i64 3, .int .i64 0, .int .i64 0]) ∧ Below w.heap.size w w' := by
  have d0 : isDig ((⟨#[34, 98, 34]⟩ : ByteArray)[0]'(by decide)) = false := by decide +kernel
  have f1 : ((((⟨#[34, 98, 34]⟩ : ByteArray)[0]'(by decide)).toNat : Int) == 46) = false := by decide +kernel
  have f2 : ((((⟨#[34, 98, 34]⟩ : ByteArray)[0]'(by decide)).toNat : Int) == 36) = false := by decide +kernel
  have f3 : ((((⟨#[34, 98, 34]⟩ : ByteArray)[0]'(by decide)).toNat : Int) == 45) = false := by decide +kernel
  have f4 : ((((⟨#[34, 98, 34]⟩ : ByteArray)[0]'(by decide)).toNat : Int) == 34) = true := by decide +kernel
  go_enter Tryz.func110, Tryz.ntmps110
  go_wp2_with (first | (go_at_call 139; refine (begin_w _).mono ?_; rintro e w1 ⟨rfl, rfl⟩) | (go_at_call 113; refine (refDig_any _ _).mono ?_; rintro e w1 ⟨rfl, rfl⟩))
  have K0 := (Blk.new w 153 #[.int .i64 0, .string ⟨#[]⟩, .int .i64 0]).alloc (.cells #[.int .i64 6, .string ⟨#[]⟩, .int .i64 0] 153)
  have hb0 := ((Below.refl w.heap.size w).alloc (Nat.le_refl _) (.cells #[.int .i64 0, .string ⟨#[]⟩, .int .i64 0] 153)).alloc (by simp) (.cells #[.int .i64 6, .string ⟨#[]⟩, .int .i64 0] 153)
  refine (str_w _).mono ?_
  rintro e w3 ⟨rfl, hb3⟩
  have K3 := K0.below hb3 K0.lt
  have r0 := K3.cell 0; have r1 := K3.cell 1; have r2 := K3.cell 2
  have z0 := K3.frozen 0; have z1 := K3.frozen 1; have z2 := K3.frozen 2
  simp at r0 r1 r2
  have l3 := K3.lt
  have hb4 := below_stepE hb0 hb3
  clear K0 hb3 hb0
  go_wp2_with fail
  have K5 := ((K3.set_ 0 (.int .i64 5)).set_ 1 (.string ⟨#[98]⟩)).set_ 2 (.int .i64 0)
  have hb5 := ((hb4.setCell (p := ⟨w.heap.size, 0, none⟩) (Nat.le_refl _) (.int .i64 5)).setCell (p := ⟨w.heap.size, 1, none⟩) (Nat.le_refl _) (.string ⟨#[98]⟩)).setCell (p := ⟨w.heap.size, 2, none⟩) (Nat.le_refl _) (.int .i64 0)
  simp only [Array.setIfInBounds] at K5
  generalize ((w3.setCell ⟨w.heap.size, 0, none⟩ (.int .i64 5)).setCell ⟨w.heap.size, 1, none⟩ (.string ⟨#[98]⟩)).setCell ⟨w.heap.size, 2, none⟩ (.int .i64 0) = w5 at K5 hb5 ⊢
  have o0 := K5.cell 0; have o1 := K5.cell 1; have o2 := K5.cell 2
  simp at o0 o1 o2
  simp [bodyPost, results, Tryz.results110, go_sem, o0, o1, o2]
  first | exact ⟨rfl, hb5⟩ | exact hb5
theorem info_word : (Tryz.prog.info? 153).map (fun i => (i.zero, i.size, i.bytes)) = some (some (.agg #[.int .i64 0, .string ⟨#[]⟩, .int .i64 0]), 3, 32) := by kernel_rfl
set_option maxHeartbeats 4000000 in
set_option maxRecDepth 100000 in
theorem words_w (w : World) : Calls Tryz.prog 92 #[.string ⟨#[34, 98, 34]⟩, .int .i64 1] w fun e w' => ∃ v, e = .returned (.tuple #[v, .int .i64 1, .int .i64 0]) ∧ w'.ownsRow w.heap.size 153 3 v 1 exWords ∧ Below w.heap.size w w' := by
  obtain ⟨i0, hi, hz0, hz1, hz2⟩ := info_parts info_word
  go_enter Tryz.func92, Tryz.ntmps92
  go_wp2_with (go_at_call 68; refine (skip_w0 _).mono ?_; rintro e w1 ⟨rfl, rfl⟩)
  refine wp_loop_rounds 2 ?_
  rw [rounds_succ]
  go_wp2_with fail
  refine (word_w _).mono ?_
  rintro e w1 ⟨rfl, hb1⟩
  have hb3 := hb1.alloc hb1.size (.cells #[.int .i64 5, .string ⟨#[98]⟩, .int .i64 1] 153)
  have hs3 := hb3.size
  go_wp2_with (at_builtin; refine wpList_append_own _ rfl _ _ 105 rfl w.heap.size 153 i0 (.agg #[.int .i64 0, .string ⟨#[]⟩, .int .i64 0]) 3 32 Tryz.underlying105 hi hz0 hz1 hz2 rfl (by decide) _ 0 _ rfl (World.ownsRow_nil _ _ _ _) ⟨w1.heap.size + 1, 0, none⟩ 1 1 [.int .i64 5, .string ⟨#[98]⟩, .int .i64 1] rfl rfl (by intro j u hj; match j, hj with | 0, hj => (simp at hj; subst hj; simp [Addr.add]) | 1, hj => (simp at hj; subst hj; simp [Addr.add]) | 2, hj => (simp at hj; subst hj; simp [Addr.add])) (by intro u hu; simp at hu; rcases hu with rfl | rfl | rfl <;> rfl) (by unfold maxLen; omega) (by omega) (by have := hb1.size; simp; omega) ?_; intro v1 w4 hown4 hgrow4 _)
  obtain ⟨A4, c4, rfl⟩ := own_sliceE hown4
  have hb4 := (hb3.alloc hb3.size (.cells #[.int .i64 5, .string ⟨#[98]⟩, .int .i64 1] 153)).grown hgrow4 (by have := hb1.size; simp; omega) (fun j hj => by cases hj)
  refine (skip_w3 _).mono ?_
  rintro e w5 ⟨rfl, rfl⟩
  go_wp2_with fail
  rw [rounds_succ]
  go_wp2_with fail
  go_ret3
  exact ⟨_, rfl, hown4, hb4⟩
end Go.Proofs.YtnepogddjinpoaaGreatDoor

namespace Go.Proofs.YtnepogddjinpoaaGreatDoor
open Go.RowKit
set_option linter.unusedVariables false
set_option linter.unusedSimpArgs false

theorem zaddE (g i : Nat) : (⟨g, 0, none⟩ : Addr).add i = ⟨g, i, none⟩ := by unfold Addr.add; split <;> simp_all
/-- Cells in a block, from its beginning on. -/
structure AtB (w : World) (g : Nat) (cs : List Value) : Prop where
  lt : g < w.heap.size
  cell : ∀ i v, cs[i]? = some v → w.cell? ⟨g, i, none⟩ = some v
theorem AtB.below {w w' : World} {B g : Nat} {cs : List Value} (h : AtB w g cs) (hb : Below B w w') (hg : g < B) (hB : B ≤ w.heap.size) : AtB w' g cs :=
  ⟨Nat.lt_of_lt_of_le h.lt hb.size, fun i v hv => (hb.cell (p := ⟨g, i, none⟩) hg).trans (h.cell i v hv)⟩
theorem AtB.on {w w' : World} {g : Nat} {cs : List Value} (h : AtB w g cs) (hb : Below w.heap.size w w') : AtB w' g cs := h.below hb h.lt (Nat.le_refl _)
theorem AtB.of_blk {w : World} {g : Nat} {t : TypeId} {cs : List Value} (h : Blk w g t cs.toArray) : AtB w g cs :=
  ⟨h.lt, fun i v hv => by rw [h.cell i, List.getElem?_toArray]; exact hv⟩
theorem AtB.of_own {w : World} {base n size : Nat} {e : TypeId} {v : Value} {xs : List Value} (h : w.ownsRow base e size v n xs) (hn : n ≠ 0) : ∃ g c, v = .slice (some ⟨g, 0, none⟩) n c ∧ n ≤ c ∧ base ≤ g ∧ AtB w g xs := by
  rcases h.2 with ⟨_, h0⟩ | ⟨g, c, cur, rfl, hg, hb, hnc, _⟩
  · exact absurd h0 hn
  · refine ⟨g, c, rfl, hnc, (h.lt g rfl).1, ⟨?_, fun i u hu => ?_⟩⟩
    · exact (Array.getElem?_eq_some_iff.1 hb).1
    · have := h.cells (g := g) rfl i u hu
      rw [zaddE] at this; exact this
def exArg : List Value := [.int .i64 4, .string ⟨#[]⟩, .slice none 0 0, .int .i64 0, .string ⟨#[98]⟩]
set_option maxHeartbeats 4000000 in
set_option maxRecDepth 100000 in
theorem arg_ex (w : World) : Calls Tryz.prog 185 #[.agg #[.int .i64 5, .string ⟨#[98]⟩, .int .i64 1]] w fun e w' => e = .returned (.tuple #[.agg #[.int .i64 4, .string ⟨#[]⟩, .slice none 0 0, .int .i64 0, .string ⟨#[98]⟩], .int .i64 0]) ∧ Below w.heap.size w w' := by
  go_enter Tryz.func185, Tryz.ntmps185
  go_wp2_with fail
  simp [bodyPost, results, Tryz.results185, go_sem]
  exact ((Below.refl _ _).alloc (Nat.le_refl _) _).alloc (by simp) _
set_option maxHeartbeats 4000000 in
set_option maxRecDepth 100000 in
theorem call_ex (w : World) (g c : Nat) (h : AtB w g exWords) : Calls Tryz.prog 144 #[.slice (some ⟨g, 0, none⟩) 1 c, .bool false] w fun e w' => ∃ g1, e = .returned (.tuple #[.agg #[.string ⟨#[]⟩, .slice (some ⟨g1, 0, none⟩) 1 1], .int .i64 0, .int .i64 0]) ∧ w.heap.size ≤ g1 ∧ AtB w' g1 exArg ∧ Below w.heap.size w w' := by
  have c0 := h.cell 0 _ rfl; have c1 := h.cell 1 _ rfl; have c2 := h.cell 2 _ rfl
  have lt := h.lt
  have K0 := (Blk.new w 33 #[.string ⟨#[]⟩, .slice none 0 0]).alloc (.cells #[.int .i64 5, .string ⟨#[98]⟩, .int .i64 1] 153)
  have hb0 := ((Below.refl w.heap.size w).alloc (Nat.le_refl _) (.cells #[.string ⟨#[]⟩, .slice none 0 0] 33)).alloc (by simp) (.cells #[.int .i64 5, .string ⟨#[98]⟩, .int .i64 1] 153)
  go_enter Tryz.func144, Tryz.ntmps144
  go_wp2_with fail
  refine (arg_ex _).mono ?_
  rintro e w1 ⟨rfl, hb1⟩
  have K1 := K0.below hb1 K0.lt
  have hb2 := below_stepE hb0 hb1
  have r0 := K1.cell 0; have r1 := K1.cell 1
  have z0 := K1.frozen 0; have z1 := K1.frozen 1
  simp at r0 r1
  have l1 := K1.lt
  clear hb1 hb0 K0
  go_wp2_with fail
  have K5 := (((K1.set_ 0 (.string ⟨#[]⟩)).set_ 1 (.slice (some ⟨w1.heap.size + 1, 0, none⟩) 1 1)).alloc (.cells #[.int .i64 4, .string ⟨#[]⟩, .slice none 0 0, .int .i64 0, .string ⟨#[98]⟩] 35)).alloc (.cells #[.int .i64 4, .string ⟨#[]⟩, .slice none 0 0, .int .i64 0, .string ⟨#[98]⟩] 35)
  have hb5 := (((hb2.setCell (p := ⟨w.heap.size, 0, none⟩) (Nat.le_refl _) (.string ⟨#[]⟩)).setCell (p := ⟨w.heap.size, 1, none⟩) (Nat.le_refl _) (.slice (some ⟨w1.heap.size + 1, 0, none⟩) 1 1)).alloc (by have := hb2.size; simp; omega) (.cells #[.int .i64 4, .string ⟨#[]⟩, .slice none 0 0, .int .i64 0, .string ⟨#[98]⟩] 35)).alloc (by have := hb2.size; simp; omega) (.cells #[.int .i64 4, .string ⟨#[]⟩, .slice none 0 0, .int .i64 0, .string ⟨#[98]⟩] 35)
  have KA := Blk.new (((w1.setCell ⟨w.heap.size, 0, none⟩ (.string ⟨#[]⟩)).setCell ⟨w.heap.size, 1, none⟩ (.slice (some ⟨w1.heap.size + 1, 0, none⟩) 1 1)).alloc (.cells #[.int .i64 4, .string ⟨#[]⟩, .slice none 0 0, .int .i64 0, .string ⟨#[98]⟩] 35)) 35 #[.int .i64 4, .string ⟨#[]⟩, .slice none 0 0, .int .i64 0, .string ⟨#[98]⟩]
  have hge := hb2.size
  have hsz : (((w1.setCell ⟨w.heap.size, 0, none⟩ (.string ⟨#[]⟩)).setCell ⟨w.heap.size, 1, none⟩ (.slice (some ⟨w1.heap.size + 1, 0, none⟩) 1 1)).alloc (.cells #[.int .i64 4, .string ⟨#[]⟩, .slice none 0 0, .int .i64 0, .string ⟨#[98]⟩] 35)).heap.size = w1.heap.size + 1 := by simp
  rw [hsz] at KA
  simp only [Array.setIfInBounds] at K5
  generalize (((w1.setCell ⟨w.heap.size, 0, none⟩ (.string ⟨#[]⟩)).setCell ⟨w.heap.size, 1, none⟩ (.slice (some ⟨w1.heap.size + 1, 0, none⟩) 1 1)).alloc (.cells #[.int .i64 4, .string ⟨#[]⟩, .slice none 0 0, .int .i64 0, .string ⟨#[98]⟩] 35)).alloc (.cells #[.int .i64 4, .string ⟨#[]⟩, .slice none 0 0, .int .i64 0, .string ⟨#[98]⟩] 35) = w5 at K5 hb5 KA ⊢
  have o0 := K5.cell 0; have o1 := K5.cell 1
  simp at o0 o1
  simp [bodyPost, results, Tryz.results144, go_sem, o0, o1]
  exact ⟨by omega, AtB.of_blk (cs := exArg) KA, hb5⟩
theorem info_call : (Tryz.prog.info? 33).map (fun i => (i.zero, i.size, i.bytes)) = some (some (.agg #[.string ⟨#[]⟩, .slice none 0 0]), 2, 40) := by kernel_rfl
/-- The pipeline: one call of one argument. -/
structure ExPipe (w : World) (base : Nat) (v : Value) : Prop where
  some_ : ∃ g c g1, v = .slice (some ⟨g, 0, none⟩) 1 c ∧ 1 ≤ c ∧ base ≤ g ∧ base ≤ g1 ∧ AtB w g [.string ⟨#[]⟩, .slice (some ⟨g1, 0, none⟩) 1 1] ∧ AtB w g1 exArg
set_option maxHeartbeats 4000000 in
set_option maxRecDepth 100000 in
theorem parse19_ex (w : World) (g c : Nat) (h : AtB w g exWords) (hc : 1 ≤ c) : Calls Tryz.prog 111 #[.slice (some ⟨g, 0, none⟩) 1 c, .int .i64 1] w fun e w' => ∃ v, e = .returned (.tuple #[v, .int .i64 1, .int .i64 0]) ∧ ExPipe w' w.heap.size v ∧ Below w.heap.size w w' := by
  have c0 := h.cell 0 _ rfl; have c1 := h.cell 1 _ rfl; have c2 := h.cell 2 _ rfl
  have lt := h.lt
  obtain ⟨i0, hi, hz0, hz1, hz2⟩ := info_parts info_call
  have H := hide h
  go_enter Tryz.func111, Tryz.ntmps111
  go_wp2_with fail
  refine wp_loop_rounds 1 ?_
  rw [rounds_succ]
  go_wp2_with fail
  refine wp_loop_rounds 2 ?_
  rw [rounds_succ]
  go_wp2_with fail
  rw [rounds_succ]
  go_wp2_with fail
  refine (call_ex _ g _ H.out).mono ?_
  rintro e w1 ⟨g1, rfl, hg1, hA1, hb1⟩
  have hb3 := hb1.alloc hb1.size (.cells #[.string ⟨#[]⟩, .slice (some ⟨g1, 0, none⟩) 1 1] 33)
  have hs1 := hb1.size
  go_wp2_with (at_builtin; refine wpList_append_own _ rfl _ _ 22 rfl w.heap.size 33 i0 (.agg #[.string ⟨#[]⟩, .slice none 0 0]) 2 40 Tryz.underlying22 hi hz0 hz1 hz2 rfl (by decide) _ 0 _ rfl (World.ownsRow_nil _ _ _ _) ⟨w1.heap.size + 1, 0, none⟩ 1 1 [.string ⟨#[]⟩, .slice (some ⟨g1, 0, none⟩) 1 1] rfl rfl (by intro j u hj; match j, hj with | 0, hj => (simp at hj; subst hj; simp [Addr.add]) | 1, hj => (simp at hj; subst hj; simp [Addr.add])) (by intro u hu; simp at hu; rcases hu with rfl | rfl <;> rfl) (by unfold maxLen; omega) (by omega) (by have := hb1.size; simp; omega) ?_; intro v1 w4 hown4 hgrow4 _)
  have hb4 := (hb3.alloc hb3.size (.cells #[.string ⟨#[]⟩, .slice (some ⟨g1, 0, none⟩) 1 1] 33)).grown hgrow4 (by have := hb1.size; simp; omega) (fun j hj => by cases hj)
  have hA4 : AtB w4 g1 exArg := by
    have hB := ((Below.refl w1.heap.size w1).alloc (Nat.le_refl _) (.cells #[.string ⟨#[]⟩, .slice (some ⟨g1, 0, none⟩) 1 1] 33)).alloc (by simp) (.cells #[.string ⟨#[]⟩, .slice (some ⟨g1, 0, none⟩) 1 1] 33)
    exact hA1.on (hB.grown hgrow4 (by simp; omega) (fun j hj => by cases hj))
  obtain ⟨g4, c4, rfl, hc4, hg4, hAt4⟩ := AtB.of_own hown4 (by decide)
  go_wp2_with fail
  go_ret3
  exact ⟨_, rfl, ⟨g4, c4, g1, rfl, hc4, hg4, hg1, hAt4, hA4⟩, hb4⟩
end Go.Proofs.YtnepogddjinpoaaGreatDoor

namespace Go.Proofs.YtnepogddjinpoaaGreatDoor
open Go.RowKit
set_option linter.unusedVariables false
set_option linter.unusedSimpArgs false

theorem AtB.far {w : World} {g : Nat} {cs : List Value} (h : AtB w g cs) {p : Addr} (hp : g ≠ p.block) (u : Value) : AtB (w.setCell p u) g cs :=
  ⟨by have := h.lt; simpa using this, fun i v hv => (World.cell?_of_block (Below.heap_setCell w p u g hp)).trans (h.cell i v hv)⟩
theorem AtB.alloc {w : World} {g : Nat} {cs : List Value} (h : AtB w g cs) (o : Obj) : AtB (w.alloc o) g cs := h.on ((Below.refl _ _).alloc (Nat.le_refl _) o)
set_option maxHeartbeats 1000000 in
set_option maxRecDepth 100000 in
theorem count_ex (w : World) (b : Nat) (k at_ : Int) (v0 v2 v3 v4 v5 : Value) (hk : k < 1000) (hk0 : 0 ≤ k) (K : Blk w b 104 #[v0, .int .i64 k, v2, v3, v4, v5]) :
    Calls Tryz.prog 74 #[.pointer (some ⟨b, 0, none⟩), .int .i64 at_] w fun e w' => e = .returned (.bool true) ∧ w' = w.setCell ⟨b, 1, none⟩ (.int .i64 (k + 1)) := by
  have c1 := K.cell 1
  have z1 := K.frozen 1
  have lt := K.lt
  simp at c1
  have hk1 : (k == 1024) = false := by simp; omega
  go_enter Tryz.func74, Tryz.ntmps74
  go_wp2_with fail
  go_ret
  exact ⟨rfl, rfl⟩
theorem ExPipe.from_ {w : World} {B C : Nat} {v : Value} (h : ExPipe w C v) (hBC : B ≤ C) : ExPipe w B v := by
  obtain ⟨g, c, g1, h1, h2, h3, h4, h5, h6⟩ := h.some_
  exact ⟨g, c, g1, h1, h2, Nat.le_trans hBC h3, Nat.le_trans hBC h4, h5, h6⟩
theorem ExPipe.far {w : World} {C : Nat} {v : Value} (h : ExPipe w C v) {p : Addr} (hp : p.block < C) (u : Value) : ExPipe (w.setCell p u) C v := by
  obtain ⟨g, c, g1, h1, h2, h3, h4, h5, h6⟩ := h.some_
  exact ⟨g, c, g1, h1, h2, h3, h4, h5.far (by omega) u, h6.far (by omega) u⟩
/-- An action's words. -/
def PieceAt (w : World) (base : Nat) (v : Value) : Prop := ∃ g c, v = .agg #[.slice (some ⟨g, 0, none⟩) 1 c, .string ⟨#[]⟩, .int .i64 1] ∧ 1 ≤ c ∧ base ≤ g ∧ AtB w g exWords
set_option maxHeartbeats 4000000 in
set_option maxRecDepth 100000 in
theorem words_p (w : World) (b : Nat) : Calls Tryz.prog 75 #[.pointer (some ⟨b, 0, none⟩), .agg #[.int .i64 2, .string ⟨#[34, 98, 34]⟩, .int .i64 1]] w fun e w' => ∃ v, e = .returned (.tuple #[v, .bool true]) ∧ PieceAt w' w.heap.size v ∧ Below w.heap.size w w' := by
  go_enter Tryz.func75, Tryz.ntmps75
  have KI := (Blk.new w 132 #[.int .i64 2, .string ⟨#[34, 98, 34]⟩, .int .i64 1]).alloc (.cells #[.slice none 0 0, .string ⟨#[]⟩, .int .i64 0] 107)
  have KR := Blk.new (w.alloc (.cells #[.int .i64 2, .string ⟨#[34, 98, 34]⟩, .int .i64 1] 132)) 107 #[.slice none 0 0, .string ⟨#[]⟩, .int .i64 0]
  have hb0 := ((Below.refl w.heap.size w).alloc (Nat.le_refl _) (.cells #[.int .i64 2, .string ⟨#[34, 98, 34]⟩, .int .i64 1] 132)).alloc (by simp) (.cells #[.slice none 0 0, .string ⟨#[]⟩, .int .i64 0] 107)
  have hsz : (w.alloc (.cells #[.int .i64 2, .string ⟨#[34, 98, 34]⟩, .int .i64 1] 132)).heap.size = w.heap.size + 1 := by simp
  rw [hsz] at KR
  go_wp2_with fail
  refine (words_w _).mono ?_
  rintro e w1 ⟨v1, rfl, hown1, hb1⟩
  obtain ⟨g, c, rfl, hc, hg, hA⟩ := AtB.of_own hown1 (by decide)
  have KI1 := KI.below hb1 KI.lt
  have KR1 := KR.below hb1 KR.lt
  have hb2 := below_stepE hb0 hb1
  have hgw : w.heap.size + 2 ≤ g := by simpa using hg
  have a0 := hA.cell 0 _ rfl; have a1 := hA.cell 1 _ rfl; have a2 := hA.cell 2 _ rfl
  have q0 := KI1.cell 0; have q1 := KI1.cell 1; have q2 := KI1.cell 2
  have r0 := KR1.cell 0; have r1 := KR1.cell 1; have r2 := KR1.cell 2
  have z0 := KR1.frozen 0; have z1 := KR1.frozen 1; have z2 := KR1.frozen 2
  simp at q0 q1 q2 r0 r1 r2
  have li := KI1.lt; have lr := KR1.lt; have lg := hA.lt
  clear KI KR hb0 hb1 hown1 hg
  go_wp2_with fail
  have hge := hb2.size
  have K5 := (((KR1.set_ 0 (.slice (some ⟨g, 0, none⟩) 1 c)).set_ 1 (.string ⟨#[]⟩)).set_ 2 (.int .i64 1)).alloc (.cells #[.slice (some ⟨g, 0, none⟩) 1 c, .string ⟨#[]⟩, .int .i64 1] 107)
  have hb5 := (((hb2.setCell (p := ⟨w.heap.size + 1, 0, none⟩) (by simp) (.slice (some ⟨g, 0, none⟩) 1 c)).setCell (p := ⟨w.heap.size + 1, 1, none⟩) (by simp) (.string ⟨#[]⟩)).setCell (p := ⟨w.heap.size + 1, 2, none⟩) (by simp) (.int .i64 1)).alloc (by simp; omega) (.cells #[.slice (some ⟨g, 0, none⟩) 1 c, .string ⟨#[]⟩, .int .i64 1] 107)
  have hA5 := (((hA.far (p := ⟨w.heap.size + 1, 0, none⟩) (by show g ≠ w.heap.size + 1; omega) (.slice (some ⟨g, 0, none⟩) 1 c)).far (p := ⟨w.heap.size + 1, 1, none⟩) (by show g ≠ w.heap.size + 1; omega) (.string ⟨#[]⟩)).far (p := ⟨w.heap.size + 1, 2, none⟩) (by show g ≠ w.heap.size + 1; omega) (.int .i64 1)).alloc (.cells #[.slice (some ⟨g, 0, none⟩) 1 c, .string ⟨#[]⟩, .int .i64 1] 107)
  simp only [Array.setIfInBounds] at K5
  generalize (((w1.setCell ⟨w.heap.size + 1, 0, none⟩ (.slice (some ⟨g, 0, none⟩) 1 c)).setCell ⟨w.heap.size + 1, 1, none⟩ (.string ⟨#[]⟩)).setCell ⟨w.heap.size + 1, 2, none⟩ (.int .i64 1)).alloc (.cells #[.slice (some ⟨g, 0, none⟩) 1 c, .string ⟨#[]⟩, .int .i64 1] 107) = w5 at K5 hb5 hA5 ⊢
  have o0 := K5.cell 0; have o1 := K5.cell 1; have o2 := K5.cell 2
  simp at o0 o1 o2
  simp [bodyPost, results, Tryz.results75, go_sem, o0, o1, o2]
  exact ⟨⟨g, c, rfl, hc, by omega, hA5⟩, hb5⟩
set_option maxHeartbeats 4000000 in
set_option maxRecDepth 100000 in
theorem pipe_p (w : World) (b g c : Nat) (h : AtB w g exWords) (hc : 1 ≤ c) : Calls Tryz.prog 94 #[.pointer (some ⟨b, 0, none⟩), .agg #[.slice (some ⟨g, 0, none⟩) 1 c, .string ⟨#[]⟩, .int .i64 1], .int .i64 0] w fun e w' => ∃ v, e = .returned (.tuple #[v, .bool true]) ∧ ExPipe w' w.heap.size v ∧ Below w.heap.size w w' := by
  have lt := h.lt
  have hP := hide (fun (W : World) (hb : Below w.heap.size w W) => parse19_ex W g c (h.on hb) hc)
  have hb0 := (Below.refl w.heap.size w).alloc (Nat.le_refl _) (.cells #[.slice (some ⟨g, 0, none⟩) 1 c, .string ⟨#[]⟩, .int .i64 1] 107)
  go_enter Tryz.func94, Tryz.ntmps94
  go_wp2_with fail
  go_region_with (go_at_call 111; refine (hP.out _ ?_).mono ?_; exact hb0.drew; rintro e w1 ⟨v, rfl, hE, hb1⟩)
  all_goals
    go_wp2_with fail
    go_ret2
    exact ⟨_, rfl, hE.from_ (by simp), below_stepE hb0.drew hb1⟩
theorem below_both {B : Nat} {a b : World} (h : Below B a b) (p : Addr) (u : Value) : Below B (a.setCell p u) (b.setCell p u) :=
  { os := h.os, tape := h.tape, output := h.output, size := by simpa using h.size, block := fun k hk => by simp [World.setCell, Array.getElem?_modify, h.block k hk] }
def set9 (w : World) (b : Nat) (v0 v1 v2 v3 v4 v5 v6 v7 v8 : Value) : World := (((((((((w.setCell ⟨b, 0, none⟩ v0).setCell ⟨b, 1, none⟩ v1).setCell ⟨b, 2, none⟩ v2).setCell ⟨b, 3, none⟩ v3).setCell ⟨b, 4, none⟩ v4).setCell ⟨b, 5, none⟩ v5).setCell ⟨b, 6, none⟩ v6).setCell ⟨b, 7, none⟩ v7).setCell ⟨b, 8, none⟩ v8)
theorem set9_blk {w : World} {b : Nat} {t : TypeId} {u0 u1 u2 u3 u4 u5 u6 u7 u8 : Value} (h : Blk w b t #[u0, u1, u2, u3, u4, u5, u6, u7, u8]) (v0 v1 v2 v3 v4 v5 v6 v7 v8 : Value) : Blk (set9 w b v0 v1 v2 v3 v4 v5 v6 v7 v8) b t #[v0, v1, v2, v3, v4, v5, v6, v7, v8] := by
  have := (((((((((h.set_ 0 v0).set_ 1 v1).set_ 2 v2).set_ 3 v3).set_ 4 v4).set_ 5 v5).set_ 6 v6).set_ 7 v7).set_ 8 v8)
  simpa [set9] using this
theorem set9_below {B : Nat} {a w : World} {b : Nat} (h : Below B a w) (hB : B ≤ b) (v0 v1 v2 v3 v4 v5 v6 v7 v8 : Value) : Below B a (set9 w b v0 v1 v2 v3 v4 v5 v6 v7 v8) := (((((((((h.setCell (p := ⟨b, 0, none⟩) hB v0).setCell (p := ⟨b, 1, none⟩) hB v1).setCell (p := ⟨b, 2, none⟩) hB v2).setCell (p := ⟨b, 3, none⟩) hB v3).setCell (p := ⟨b, 4, none⟩) hB v4).setCell (p := ⟨b, 5, none⟩) hB v5).setCell (p := ⟨b, 6, none⟩) hB v6).setCell (p := ⟨b, 7, none⟩) hB v7).setCell (p := ⟨b, 8, none⟩) hB v8)
theorem set9_pipe {C : Nat} {w : World} {b : Nat} {v : Value} (h : ExPipe w C v) (hB : b < C) (v0 v1 v2 v3 v4 v5 v6 v7 v8 : Value) : ExPipe (set9 w b v0 v1 v2 v3 v4 v5 v6 v7 v8) C v := (((((((((h.far (p := ⟨b, 0, none⟩) hB v0).far (p := ⟨b, 1, none⟩) hB v1).far (p := ⟨b, 2, none⟩) hB v2).far (p := ⟨b, 3, none⟩) hB v3).far (p := ⟨b, 4, none⟩) hB v4).far (p := ⟨b, 5, none⟩) hB v5).far (p := ⟨b, 6, none⟩) hB v6).far (p := ⟨b, 7, none⟩) hB v7).far (p := ⟨b, 8, none⟩) hB v8)
def exNode (vp : Value) : Value := .agg #[.int .i64 2, .string ⟨#[]⟩, .string ⟨#[]⟩, vp, .slice none 0 0, .slice none 0 0, .int .i64 1, .int .i64 0, .int .i64 0]
set_option maxHeartbeats 4000000 in
set_option maxRecDepth 100000 in
theorem single_p (w : World) (b g c : Nat) (k : Int) (v0 v2 v3 v4 v5 : Value) (hk : k < 1000) (hk0 : 0 ≤ k) (K : Blk w b 104 #[v0, .int .i64 k, v2, v3, v4, v5]) (h : AtB w g exWords) (hc : 1 ≤ c) (hbg : g ≠ b) :
    Calls Tryz.prog 79 #[.pointer (some ⟨b, 0, none⟩), .agg #[.slice (some ⟨g, 0, none⟩) 1 c, .string ⟨#[]⟩, .int .i64 1]] w fun e w' => ∃ vp, e = .returned (.tuple #[exNode vp, .bool true]) ∧ ExPipe w' w.heap.size vp ∧ Below w.heap.size (w.setCell ⟨b, 1, none⟩ (.int .i64 (k + 1))) w' := by
  have hbl := K.lt
  have hgl := h.lt
  have K0 := ((K.alloc (.cells #[.slice (some ⟨g, 0, none⟩) 1 c, .string ⟨#[]⟩, .int .i64 1] 107)).alloc (.cells #[.int .i64 0, .string ⟨#[]⟩, .string ⟨#[]⟩, .slice none 0 0, .slice none 0 0, .slice none 0 0, .int .i64 0, .int .i64 0, .int .i64 0] 61)).alloc (.cells #[.int .i64 0, .string ⟨#[]⟩, .string ⟨#[]⟩, .slice none 0 0, .slice none 0 0, .slice none 0 0, .int .i64 1, .int .i64 0, .int .i64 0] 61)
  have hA0 := ((h.alloc (.cells #[.slice (some ⟨g, 0, none⟩) 1 c, .string ⟨#[]⟩, .int .i64 1] 107)).alloc (.cells #[.int .i64 0, .string ⟨#[]⟩, .string ⟨#[]⟩, .slice none 0 0, .slice none 0 0, .slice none 0 0, .int .i64 0, .int .i64 0, .int .i64 0] 61)).alloc (.cells #[.int .i64 0, .string ⟨#[]⟩, .string ⟨#[]⟩, .slice none 0 0, .slice none 0 0, .slice none 0 0, .int .i64 1, .int .i64 0, .int .i64 0] 61)
  have KP := ((Blk.new w 107 #[.slice (some ⟨g, 0, none⟩) 1 c, .string ⟨#[]⟩, .int .i64 1]).alloc (.cells #[.int .i64 0, .string ⟨#[]⟩, .string ⟨#[]⟩, .slice none 0 0, .slice none 0 0, .slice none 0 0, .int .i64 0, .int .i64 0, .int .i64 0] 61)).alloc (.cells #[.int .i64 0, .string ⟨#[]⟩, .string ⟨#[]⟩, .slice none 0 0, .slice none 0 0, .slice none 0 0, .int .i64 1, .int .i64 0, .int .i64 0] 61)
  have KR := (Blk.new (w.alloc (.cells #[.slice (some ⟨g, 0, none⟩) 1 c, .string ⟨#[]⟩, .int .i64 1] 107)) 61 #[.int .i64 0, .string ⟨#[]⟩, .string ⟨#[]⟩, .slice none 0 0, .slice none 0 0, .slice none 0 0, .int .i64 0, .int .i64 0, .int .i64 0]).alloc (.cells #[.int .i64 0, .string ⟨#[]⟩, .string ⟨#[]⟩, .slice none 0 0, .slice none 0 0, .slice none 0 0, .int .i64 1, .int .i64 0, .int .i64 0] 61)
  have KN := Blk.new ((w.alloc (.cells #[.slice (some ⟨g, 0, none⟩) 1 c, .string ⟨#[]⟩, .int .i64 1] 107)).alloc (.cells #[.int .i64 0, .string ⟨#[]⟩, .string ⟨#[]⟩, .slice none 0 0, .slice none 0 0, .slice none 0 0, .int .i64 0, .int .i64 0, .int .i64 0] 61)) 61 #[.int .i64 0, .string ⟨#[]⟩, .string ⟨#[]⟩, .slice none 0 0, .slice none 0 0, .slice none 0 0, .int .i64 1, .int .i64 0, .int .i64 0]
  have hb0 := (((Below.refl w.heap.size w).alloc (Nat.le_refl _) (.cells #[.slice (some ⟨g, 0, none⟩) 1 c, .string ⟨#[]⟩, .int .i64 1] 107)).alloc (by simp) (.cells #[.int .i64 0, .string ⟨#[]⟩, .string ⟨#[]⟩, .slice none 0 0, .slice none 0 0, .slice none 0 0, .int .i64 0, .int .i64 0, .int .i64 0] 61)).alloc (by simp; omega) (.cells #[.int .i64 0, .string ⟨#[]⟩, .string ⟨#[]⟩, .slice none 0 0, .slice none 0 0, .slice none 0 0, .int .i64 1, .int .i64 0, .int .i64 0] 61)
  have e1 : (w.alloc (.cells #[.slice (some ⟨g, 0, none⟩) 1 c, .string ⟨#[]⟩, .int .i64 1] 107)).heap.size = w.heap.size + 1 := by simp
  have e2 : ((w.alloc (.cells #[.slice (some ⟨g, 0, none⟩) 1 c, .string ⟨#[]⟩, .int .i64 1] 107)).alloc (.cells #[.int .i64 0, .string ⟨#[]⟩, .string ⟨#[]⟩, .slice none 0 0, .slice none 0 0, .slice none 0 0, .int .i64 0, .int .i64 0, .int .i64 0] 61)).heap.size = w.heap.size + 2 := by simp
  rw [e1] at KR
  rw [e2] at KN
  clear e1 e2
  have cC := hide (fun W (h : Blk W b 104 #[v0, .int .i64 k, v2, v3, v4, v5]) => count_ex W b k 1 v0 v2 v3 v4 v5 hk hk0 h)
  go_enter Tryz.func79, Tryz.ntmps79
  go_wp2_with fail
  refine (cC.out _ K0).mono ?_
  rintro e w1 ⟨rfl, hw1⟩
  have hb1 : Below w.heap.size (w.setCell ⟨b, 1, none⟩ (.int .i64 (k + 1))) w1 := by rw [hw1]; exact below_both hb0 _ _
  have KP1 : Blk w1 w.heap.size 107 #[.slice (some ⟨g, 0, none⟩) 1 c, .string ⟨#[]⟩, .int .i64 1] := by rw [hw1]; exact KP.far (by show w.heap.size ≠ b; omega) _
  have KR1 : Blk w1 (w.heap.size + 1) 61 #[.int .i64 0, .string ⟨#[]⟩, .string ⟨#[]⟩, .slice none 0 0, .slice none 0 0, .slice none 0 0, .int .i64 0, .int .i64 0, .int .i64 0] := by rw [hw1]; exact KR.far (by show w.heap.size + 1 ≠ b; omega) _
  have KN1 : Blk w1 (w.heap.size + 2) 61 #[.int .i64 0, .string ⟨#[]⟩, .string ⟨#[]⟩, .slice none 0 0, .slice none 0 0, .slice none 0 0, .int .i64 1, .int .i64 0, .int .i64 0] := by rw [hw1]; exact KN.far (by show w.heap.size + 2 ≠ b; omega) _
  have hA1 : AtB w1 g exWords := by rw [hw1]; exact hA0.far (by show g ≠ b; exact hbg) _
  have hs1 : w.heap.size + 3 ≤ w1.heap.size := by have := KN1.lt; omega
  clear hw1 K0 hA0 KP KR KN hb0
  have a0 := hA1.cell 0 _ rfl; have a1 := hA1.cell 1 _ rfl; have a2 := hA1.cell 2 _ rfl
  have p0 := KP1.cell 0; have p1 := KP1.cell 1; have p2 := KP1.cell 2
  have n0 := KN1.cell 0; have n1 := KN1.cell 1; have n2 := KN1.cell 2; have n3 := KN1.cell 3; have n4 := KN1.cell 4; have n5 := KN1.cell 5; have n6 := KN1.cell 6; have n7 := KN1.cell 7; have n8 := KN1.cell 8
  have z0 := KN1.frozen 0; have z3 := KN1.frozen 3
  simp at p0 p1 p2 n0 n1 n2 n3 n4 n5 n6 n7 n8
  have lN := KN1.lt; have lP := KP1.lt; have lg := hA1.lt
  go_wp2_with fail
  have hA2 := hA1.far (p := ⟨w.heap.size + 1 + 1, 0, none⟩) (by show g ≠ w.heap.size + 1 + 1; omega) (.int .i64 2)
  have KN2 := KN1.set_ 0 (.int .i64 2)
  have KR2 := KR1.far (p := ⟨w.heap.size + 1 + 1, 0, none⟩) (by show w.heap.size + 1 ≠ w.heap.size + 1 + 1; omega) (.int .i64 2)
  have hb2 := hb1.setCell (p := ⟨w.heap.size + 1 + 1, 0, none⟩) (by show w.heap.size ≤ w.heap.size + 1 + 1; omega) (.int .i64 2)
  simp only [Array.setIfInBounds] at KN2
  have hs2 : (w1.setCell ⟨w.heap.size + 1 + 1, 0, none⟩ (.int .i64 2)).heap.size = w1.heap.size := by simp
  refine (pipe_p _ b g c hA2 hc).mono ?_
  rintro e w3 ⟨vp, rfl, hE, hb3⟩
  obtain ⟨gp, cpp, gq, hvp, hpp⟩ := hE.some_
  subst hvp
  clear hpp
  have KN3 := KN2.below hb3 KN2.lt
  have KR3 := KR2.below hb3 KR2.lt
  have hs3 := hb3.size
  have hb4 := hb2.trans (hb3.mono (by rw [hs2]; omega))
  rw [hs2] at hE hs3
  clear hA2 KN2 KR2 hb2 hb3 n0 n1 n2 n3 n4 n5 n6 n7 n8 z0 z3 a0 a1 a2 p0 p1 p2 lN lP lg
  have n0 := KN3.cell 0; have n1 := KN3.cell 1; have n2 := KN3.cell 2; have n3 := KN3.cell 3; have n4 := KN3.cell 4; have n5 := KN3.cell 5; have n6 := KN3.cell 6; have n7 := KN3.cell 7; have n8 := KN3.cell 8
  have z3 := KN3.frozen 3
  have r0 := KR3.cell 0; have r1 := KR3.cell 1; have r2 := KR3.cell 2; have r3 := KR3.cell 3; have r4 := KR3.cell 4; have r5 := KR3.cell 5; have r6 := KR3.cell 6; have r7 := KR3.cell 7; have r8 := KR3.cell 8
  have y0 := KR3.frozen 0; have y1 := KR3.frozen 1; have y2 := KR3.frozen 2; have y3 := KR3.frozen 3; have y4 := KR3.frozen 4; have y5 := KR3.frozen 5; have y6 := KR3.frozen 6; have y7 := KR3.frozen 7; have y8 := KR3.frozen 8
  simp at n0 n1 n2 n3 n4 n5 n6 n7 n8 r0 r1 r2 r3 r4 r5 r6 r7 r8
  have lN := KN3.lt; have lR := KR3.lt
  go_wp2_with fail
  have KR5 := set9_blk (KR3.far (p := ⟨w.heap.size + 1 + 1, 3, none⟩) (by show w.heap.size + 1 ≠ w.heap.size + 1 + 1; omega) (Value.slice (some ⟨gp, 0, none⟩) 1 cpp)) (.int .i64 2) (.string ⟨#[]⟩) (.string ⟨#[]⟩) (Value.slice (some ⟨gp, 0, none⟩) 1 cpp) (.slice none 0 0) (.slice none 0 0) (.int .i64 1) (.int .i64 0) (.int .i64 0)
  have hb5 := set9_below (b := w.heap.size + 1) (hb4.setCell (p := ⟨w.heap.size + 1 + 1, 3, none⟩) (by show w.heap.size ≤ w.heap.size + 1 + 1; omega) (Value.slice (some ⟨gp, 0, none⟩) 1 cpp)) (by omega) (.int .i64 2) (.string ⟨#[]⟩) (.string ⟨#[]⟩) (Value.slice (some ⟨gp, 0, none⟩) 1 cpp) (.slice none 0 0) (.slice none 0 0) (.int .i64 1) (.int .i64 0) (.int .i64 0)
  have hE5 := set9_pipe (b := w.heap.size + 1) (hE.far (p := ⟨w.heap.size + 1 + 1, 3, none⟩) (by show w.heap.size + 1 + 1 < _; omega) (Value.slice (some ⟨gp, 0, none⟩) 1 cpp)) (by omega) (.int .i64 2) (.string ⟨#[]⟩) (.string ⟨#[]⟩) (Value.slice (some ⟨gp, 0, none⟩) 1 cpp) (.slice none 0 0) (.slice none 0 0) (.int .i64 1) (.int .i64 0) (.int .i64 0)
  have hW : ((((((((((w3.setCell ⟨w.heap.size + 1 + 1, 3, none⟩ (Value.slice (some ⟨gp, 0, none⟩) 1 cpp)).setCell ⟨w.heap.size + 1, 0, none⟩ (.int .i64 2)).setCell ⟨w.heap.size + 1, 1, none⟩ (.string ⟨#[]⟩)).setCell ⟨w.heap.size + 1, 2, none⟩ (.string ⟨#[]⟩)).setCell ⟨w.heap.size + 1, 3, none⟩ (Value.slice (some ⟨gp, 0, none⟩) 1 cpp)).setCell ⟨w.heap.size + 1, 4, none⟩ (.slice none 0 0)).setCell ⟨w.heap.size + 1, 5, none⟩ (.slice none 0 0)).setCell ⟨w.heap.size + 1, 6, none⟩ (.int .i64 1)).setCell ⟨w.heap.size + 1, 7, none⟩ (.int .i64 0)).setCell ⟨w.heap.size + 1, 8, none⟩ (.int .i64 0)) = set9 (w3.setCell ⟨w.heap.size + 1 + 1, 3, none⟩ (Value.slice (some ⟨gp, 0, none⟩) 1 cpp)) (w.heap.size + 1) (.int .i64 2) (.string ⟨#[]⟩) (.string ⟨#[]⟩) (Value.slice (some ⟨gp, 0, none⟩) 1 cpp) (.slice none 0 0) (.slice none 0 0) (.int .i64 1) (.int .i64 0) (.int .i64 0) := rfl
  rw [hW]
  clear hW
  generalize set9 (w3.setCell ⟨w.heap.size + 1 + 1, 3, none⟩ (Value.slice (some ⟨gp, 0, none⟩) 1 cpp)) (w.heap.size + 1) (.int .i64 2) (.string ⟨#[]⟩) (.string ⟨#[]⟩) (Value.slice (some ⟨gp, 0, none⟩) 1 cpp) (.slice none 0 0) (.slice none 0 0) (.int .i64 1) (.int .i64 0) (.int .i64 0) = w5 at KR5 hb5 hE5 ⊢
  have o0 := KR5.cell 0; have o1 := KR5.cell 1; have o2 := KR5.cell 2; have o3 := KR5.cell 3; have o4 := KR5.cell 4; have o5 := KR5.cell 5; have o6 := KR5.cell 6; have o7 := KR5.cell 7; have o8 := KR5.cell 8
  simp at o0 o1 o2 o3 o4 o5 o6 o7 o8
  have hfin : ExPipe w5 w.heap.size (Value.slice (some ⟨gp, 0, none⟩) 1 cpp) := hE5.from_ (by omega)
  clear hE5 hE KR5 KR3 KN3 hb4 KN1 KR1 KP1 hA1 K h
  simp [bodyPost, results, Tryz.results79, go_sem, o0, o1, o2, o3, o4, o5, o6, o7, o8]
  refine ⟨Value.slice (some ⟨gp, 0, none⟩) 1 cpp, ?_, hfin, hb5⟩
  rfl
end Go.Proofs.YtnepogddjinpoaaGreatDoor

namespace Go.Proofs.YtnepogddjinpoaaGreatDoor
open Go.RowKit
set_option linter.unusedVariables false
set_option linter.unusedSimpArgs false

theorem info_node : (Tryz.prog.info? 61).map (fun i => (i.zero, i.size, i.bytes)) = some (some (.agg #[.int .i64 0, .string ⟨#[]⟩, .string ⟨#[]⟩, .slice none 0 0, .slice none 0 0, .slice none 0 0, .int .i64 0, .int .i64 0, .int .i64 0]), 9, 136) := by kernel_rfl
theorem grown_below {w w' : World} {row : Option Nat} (hs : w.heap.size ≤ w'.heap.size) (hb : ∀ j, j < w.heap.size → some j ≠ row → w'.heap[j]? = w.heap[j]?) (h1 : w'.os = w.os) (h2 : w'.tape = w.tape) (h3 : w'.output = w.output) : w.grownBy w' row :=
  { os := h1, tape := h2, output := h3, size := hs, block := hb }
/-- The example's nodes. -/
def exNodes (vp : Value) : List Value :=
  [.int .i64 1, .string ⟨#[97]⟩, .string ⟨#[]⟩, .slice none 0 0, .slice none 0 0, .slice none 0 0, .int .i64 0, .int .i64 0, .int .i64 0,
   .int .i64 2, .string ⟨#[]⟩, .string ⟨#[]⟩, vp, .slice none 0 0, .slice none 0 0, .int .i64 1, .int .i64 0, .int .i64 0,
   .int .i64 1, .string ⟨#[99]⟩, .string ⟨#[]⟩, .slice none 0 0, .slice none 0 0, .slice none 0 0, .int .i64 8, .int .i64 0, .int .i64 0]
theorem own_setE {w : World} {base n size : Nat} {e : TypeId} {v : Value} {xs : List Value} (h : w.ownsRow base e size v n xs) {p : Addr} (hp : p.block < base) (u : Value) : (w.setCell p u).ownsRow base e size v n xs := by
  refine h.kept (row := some p.block) ⟨rfl, rfl, rfl, by simp, fun k hk hne => Below.heap_setCell w p _ k (fun e => hne (by rw [e]))⟩ (.inr ?_)
  intro e
  have := (h.lt _ e).1
  omega
theorem own_keepE {w w' : World} {base n size : Nat} {e : TypeId} {v : Value} {xs : List Value} (h : w.ownsRow base e size v n xs) (hb : Below w.heap.size w w') : w'.ownsRow base e size v n xs :=
  h.kept (row := none) ⟨hb.os, hb.tape, hb.output, hb.size, fun k hk _ => hb.block k hk⟩ (by cases h : v.ownBlock <;> simp)
/-- The parser's state between two steps: its block b, the result's block, the items, the row of nodes. -/
structure NS (w : World) (b g : Nat) (v2 v3 v4 v5 : Value) (wi : World) (L : Value) (n : Int) (out : Value) (k : Nat) (xs : List Value) : Prop where
  blt : b < w.heap.size
  glt : g < w.heap.size
  gb : g ≠ b
  blk : Blk wi b 104 #[L, .int .i64 n, v2, v3, v4, v5]
  res : Blk wi w.heap.size 107 #[.slice none 0 0, .string ⟨#[]⟩, .int .i64 0]
  items : AtB wi g exItems
  gro : w.grownBy wi (some b)
  own : wi.ownsRow (w.heap.size + 1) 61 9 out k xs
theorem NS.below {w : World} {b g : Nat} {v2 v3 v4 v5 : Value} {wi : World} {L : Value} {n : Int} {out : Value} {k : Nat} {xs : List Value} (h : NS w b g v2 v3 v4 v5 wi L n out k xs) {w' : World} (hb : Below wi.heap.size wi w') : NS w b g v2 v3 v4 v5 w' L n out k xs :=
  { blt := h.blt, glt := h.glt, gb := h.gb, blk := h.blk.below hb h.blk.lt, res := h.res.below hb h.res.lt, items := h.items.on hb,
    gro := { os := hb.os.trans h.gro.os, tape := hb.tape.trans h.gro.tape, output := hb.output.trans h.gro.output, size := Nat.le_trans h.gro.size hb.size, block := fun j h1 h2 => (hb.block j (Nat.lt_of_lt_of_le h1 h.gro.size)).trans (h.gro.block j h1 h2) },
    own := own_keepE h.own hb }
theorem NS.alloc {w : World} {b g : Nat} {v2 v3 v4 v5 : Value} {wi : World} {L : Value} {n : Int} {out : Value} {k : Nat} {xs : List Value} (h : NS w b g v2 v3 v4 v5 wi L n out k xs) (o : Obj) : NS w b g v2 v3 v4 v5 (wi.alloc o) L n out k xs := h.below ((Below.refl _ _).alloc (Nat.le_refl _) o)
theorem NS.gset {w : World} {b g : Nat} {v2 v3 v4 v5 : Value} {wi : World} {L : Value} {n : Int} {out : Value} {k : Nat} {xs : List Value} (h : NS w b g v2 v3 v4 v5 wi L n out k xs) (i : Nat) (u : Value) : w.grownBy (wi.setCell ⟨b, i, none⟩ u) (some b) :=
  { os := h.gro.os, tape := h.gro.tape, output := h.gro.output, size := by have := h.gro.size; simpa using this, block := fun j h1 h2 => (Below.heap_setCell wi ⟨b, i, none⟩ u j (by intro e; exact h2 (by rw [e]))).trans (h.gro.block j h1 h2) }
theorem NS.setL {w : World} {b g : Nat} {v2 v3 v4 v5 : Value} {wi : World} {L : Value} {n : Int} {out : Value} {k : Nat} {xs : List Value} (h : NS w b g v2 v3 v4 v5 wi L n out k xs) (L' : Value) : NS w b g v2 v3 v4 v5 (wi.setCell ⟨b, 0, none⟩ L') L' n out k xs :=
  { blt := h.blt, glt := h.glt, gb := h.gb, blk := by have := h.blk.set_ 0 L'; simpa using this, res := h.res.far (p := ⟨b, 0, none⟩) (by have := h.blt; show w.heap.size ≠ b; omega) L',
    items := h.items.far (p := ⟨b, 0, none⟩) h.gb L', gro := h.gset 0 L', own := own_setE h.own (p := ⟨b, 0, none⟩) (by have := h.blt; show b < _; omega) L' }
theorem NS.setN {w : World} {b g : Nat} {v2 v3 v4 v5 : Value} {wi : World} {L : Value} {n : Int} {out : Value} {k : Nat} {xs : List Value} (h : NS w b g v2 v3 v4 v5 wi L n out k xs) (m : Int) : NS w b g v2 v3 v4 v5 (wi.setCell ⟨b, 1, none⟩ (.int .i64 m)) L m out k xs :=
  { blt := h.blt, glt := h.glt, gb := h.gb, blk := by have := h.blk.set_ 1 (.int .i64 m); simpa using this, res := h.res.far (p := ⟨b, 1, none⟩) (by have := h.blt; show w.heap.size ≠ b; omega) _,
    items := h.items.far (p := ⟨b, 1, none⟩) h.gb _, gro := h.gset 1 _, own := own_setE h.own (p := ⟨b, 1, none⟩) (by have := h.blt; show b < _; omega) _ }
theorem NS.append {w : World} {b g : Nat} {v2 v3 v4 v5 : Value} {wi : World} {L : Value} {n : Int} {out : Value} {k : Nat} {xs : List Value} (h : NS w b g v2 v3 v4 v5 wi L n out k xs) {w' : World} {out' : Value} {k' : Nat} {xs' : List Value} (hown : w'.ownsRow (w.heap.size + 1) 61 9 out' k' xs') (hg : wi.grownBy w' out.ownBlock) : NS w b g v2 v3 v4 v5 w' L n out' k' xs' := by
  have hlow : ∀ j, out.ownBlock = some j → w.heap.size + 1 ≤ j := fun j e => (h.own.lt j e).1
  have hne : ∀ j, j < w.heap.size + 1 → some j ≠ out.ownBlock := fun j hj e => by have := hlow j e.symm; omega
  have hb := h.blt; have hgl := h.glt
  refine { blt := h.blt, glt := h.glt, gb := h.gb, blk := h.blk.grown hg (hne b (by omega)), res := h.res.grown hg (hne _ (by omega)), items := ⟨?_, fun i v hv => ?_⟩, gro := ?_, own := hown }
  · have := h.items.lt; have := hg.size; omega
  · exact (World.cell?_of_block (hg.block g h.items.lt (hne g (by omega)))).trans (h.items.cell i v hv)
  · exact { os := hg.os.trans h.gro.os, tape := hg.tape.trans h.gro.tape, output := hg.output.trans h.gro.output, size := Nat.le_trans h.gro.size hg.size, block := fun j h1 h2 => (hg.block j (Nat.lt_of_lt_of_le h1 h.gro.size) (hne j (by omega))).trans (h.gro.block j h1 h2) }
theorem NS.setFar {w : World} {b g : Nat} {v2 v3 v4 v5 : Value} {wi : World} {L : Value} {n : Int} {out : Value} {k : Nat} {xs : List Value} (h : NS w b g v2 v3 v4 v5 wi L n out k xs) {q i : Nat} (h1 : b ≠ q) (h2 : w.heap.size < q) (h3 : g ≠ q) (h4 : True) (h5 : out.ownBlock ≠ some q) (u : Value) : NS w b g v2 v3 v4 v5 (wi.setCell ⟨q, i, none⟩ u) L n out k xs :=
  { blt := h.blt, glt := h.glt, gb := h.gb, blk := h.blk.far (p := ⟨q, i, none⟩) h1 u, res := h.res.far (p := ⟨q, i, none⟩) (by show w.heap.size ≠ q; omega) u,
    items := h.items.far (p := ⟨q, i, none⟩) h3 u,
    gro := { os := h.gro.os, tape := h.gro.tape, output := h.gro.output, size := by have := h.gro.size; simpa using this, block := fun j e1 e2 => (Below.heap_setCell wi ⟨q, i, none⟩ u j (by show j ≠ q; omega)).trans (h.gro.block j e1 e2) },
    own := by
      refine h.own.kept (row := some q) ⟨rfl, rfl, rfl, by simp, fun k hk hne => Below.heap_setCell wi ⟨q, i, none⟩ u k (fun e => hne (by rw [e]))⟩ (.inr ?_)
      intro e; exact h5 e }
theorem NS.set9 {w : World} {b g : Nat} {v2 v3 v4 v5 : Value} {wi : World} {L : Value} {n : Int} {out : Value} {k : Nat} {xs : List Value} (h : NS w b g v2 v3 v4 v5 wi L n out k xs) {q : Nat} (h1 : b ≠ q) (h2 : w.heap.size < q) (h3 : g ≠ q) (h5 : out.ownBlock ≠ some q) (u0 u1 u2 u3 u4 u5 u6 u7 u8 : Value) : NS w b g v2 v3 v4 v5 (set9 wi q u0 u1 u2 u3 u4 u5 u6 u7 u8) L n out k xs :=
  have h4 : True := trivial
  (((((((((h.setFar (i := 0) h1 h2 h3 h4 h5 u0).setFar (i := 1) h1 h2 h3 h4 h5 u1).setFar (i := 2) h1 h2 h3 h4 h5 u2).setFar (i := 3) h1 h2 h3 h4 h5 u3).setFar (i := 4) h1 h2 h3 h4 h5 u4).setFar (i := 5) h1 h2 h3 h4 h5 u5).setFar (i := 6) h1 h2 h3 h4 h5 u6).setFar (i := 7) h1 h2 h3 h4 h5 u7).setFar (i := 8) h1 h2 h3 h4 h5 u8)
end Go.Proofs.YtnepogddjinpoaaGreatDoor
