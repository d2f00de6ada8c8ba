/-
  The page's example a{{"b"}}c: its pieces.
-/
import Derived.Test.YtnepogddjinpoaaGreatDoorEx18
import Derived.OwnWalk
import Derived.Deep.OwnRows
namespace Go.Proofs.YtnepogddjinpoaaGreatDoor
open Go.RowKit
set_option linter.unusedVariables false
set_option linter.unusedSimpArgs false

theorem info_item : (Tryz.prog.info? 132).map (fun i => (i.zero, i.size, i.bytes)) = some (some (.agg #[.int .i64 0, .string ⟨#[]⟩, .int .i64 0]), 3, 32) := by kernel_rfl
def exItems : List Value := [.int .i64 1, .string ⟨#[97]⟩, .int .i64 0, .int .i64 2, .string ⟨#[34, 98, 34]⟩, .int .i64 1, .int .i64 1, .string ⟨#[99]⟩, .int .i64 8]
theorem own_sliceE {w : World} {base n size : Nat} {e : TypeId} {v : Value} {xs : List Value} (h : w.ownsRow base e size v n xs) : ∃ A c, v = .slice A n c := by
  rcases h.2 with ⟨rfl, rfl⟩ | ⟨g, cap, cur, rfl, _⟩
  · exact ⟨_, _, rfl⟩
  · exact ⟨_, _, rfl⟩
set_option maxHeartbeats 4000000 in
set_option maxRecDepth 100000 in
theorem items_ex (w : World) : Calls Tryz.prog 54 #[.string ⟨#[97, 123, 123, 34, 98, 34, 125, 125, 99]⟩] w fun e w' => ∃ v, e = .returned (.tuple #[v, .int .i64 9, .int .i64 0]) ∧ w'.ownsRow w.heap.size 132 3 v 3 exItems ∧ Below w.heap.size w w' := by
  obtain ⟨i0, hi, hz0, hz1, hz2⟩ := info_parts info_item
  go_enter Tryz.func54, Tryz.ntmps54
  go_wp2_with fail
  refine wp_loop_rounds 2 ?_
  rw [rounds_succ]
  go_wp2_with (go_at_call 67; refine (find_ex1 _).mono ?_; rintro e w1 ⟨rfl, rfl⟩)
  rw [show ((⟨#[]⟩ : ByteArray) ++ (⟨#[97, 123, 123, 34, 98, 34, 125, 125, 99]⟩ : ByteArray).extract 0 1) = ⟨#[97]⟩ by rfl]
  refine (begins_m _).mono ?_
  rintro e w1 ⟨rfl, rfl⟩
  go_wp2_with (go_at_call 68; refine (skip_ex _).mono ?_; rintro e w1 ⟨rfl, rfl⟩)
  refine (begins_r _).mono ?_
  rintro e w1 ⟨rfl, rfl⟩
  go_wp2_with (first | (go_at_call 70; refine (closes_ex _).mono ?_; rintro e w1 ⟨rfl, rfl⟩) | (at_builtin; refine wpList_append_own _ rfl _ _ 97 rfl w.heap.size 132 i0 (.agg #[.int .i64 0, .string ⟨#[]⟩, .int .i64 0]) 3 32 Tryz.underlying97 hi hz0 hz1 hz2 rfl (by decide) _ 0 _ rfl (World.ownsRow_nil _ _ _ _) ⟨w.heap.size, 0, none⟩ 1 1 [.int .i64 1, .string ⟨#[97]⟩, .int .i64 0] rfl rfl (by intro j u hj; match j, hj with | 0, hj => (simp at hj; subst hj; simp [Addr.add]) | 1, hj => (simp at hj; subst hj; simp [Addr.add]) | 2, hj => (simp at hj; subst hj; simp [Addr.add])) (by intro u hu; simp at hu; rcases hu with rfl | rfl | rfl <;> rfl) (by unfold maxLen; omega) (by omega) (by simp) ?_; intro v1 w1 hown1 hgrow1 _))
  have hb1 := ((Below.refl w.heap.size w).alloc (Nat.le_refl _) (.cells #[.int .i64 1, .string ⟨#[97]⟩, .int .i64 0] 132)).grown hgrow1 (by simp) (fun j hj => by cases hj)
  obtain ⟨A1, c1, rfl⟩ := own_sliceE hown1
  have hs1 := hb1.size
  refine (trim_ex _).mono ?_
  rintro e w2 ⟨rfl, rfl⟩
  go_wp2_with (first | (at_builtin; refine wpList_append_own _ rfl _ _ 97 rfl w.heap.size 132 i0 (.agg #[.int .i64 0, .string ⟨#[]⟩, .int .i64 0]) 3 32 Tryz.underlying97 hi hz0 hz1 hz2 rfl (by decide) _ 1 _ rfl (hown1.alloc _) ⟨w1.heap.size, 0, none⟩ 1 1 [.int .i64 2, .string ⟨#[34, 98, 34]⟩, .int .i64 1] rfl rfl (by intro j u hj; match j, hj with | 0, hj => (simp at hj; subst hj; simp [Addr.add]) | 1, hj => (simp at hj; subst hj; simp [Addr.add]) | 2, hj => (simp at hj; subst hj; simp [Addr.add])) (by intro u hu; simp at hu; rcases hu with rfl | rfl | rfl <;> rfl) (by unfold maxLen; omega) (by omega) (by simp; omega) ?_; intro v2 w2 hown2 hgrow2 _))
  obtain ⟨A2, c2, rfl⟩ := own_sliceE hown2
  have hb2 := (hb1.alloc hb1.size (.cells #[.int .i64 2, .string ⟨#[34, 98, 34]⟩, .int .i64 1] 132)).grown hgrow2 (by simp; omega) (fun j hj => (hown1.lt j hj).1)
  have hs2 := hb2.size
  rw [rounds_succ]
  have hTT : ((⟨#[]⟩ : ByteArray) ++ (⟨#[97, 123, 123, 34, 98, 34, 125, 125, 99]⟩ : ByteArray).extract 8 9).toList.isEmpty = false := by decide +kernel
  go_wp2_with (first | (go_at_call 67; refine (find_ex2 _).mono ?_; rintro e w1 ⟨rfl, rfl⟩) | (at_builtin; refine wpList_append_own _ rfl _ _ 97 rfl w.heap.size 132 i0 (.agg #[.int .i64 0, .string ⟨#[]⟩, .int .i64 0]) 3 32 Tryz.underlying97 hi hz0 hz1 hz2 rfl (by decide) _ 2 _ rfl (hown2.alloc _) ⟨w2.heap.size, 0, none⟩ 1 1 [.int .i64 1, .string ((⟨#[]⟩ : ByteArray) ++ (⟨#[97, 123, 123, 34, 98, 34, 125, 125, 99]⟩ : ByteArray).extract 8 9), .int .i64 8] rfl rfl (by intro j u hj; match j, hj with | 0, hj => (simp at hj; subst hj; simp [Addr.add]) | 1, hj => (simp at hj; subst hj; simp [Addr.add]) | 2, hj => (simp at hj; subst hj; simp [Addr.add])) (by intro u hu; simp at hu; rcases hu with rfl | rfl | rfl <;> rfl) (by unfold maxLen; omega) (by omega) (by simp; omega) ?_; intro v3 w3 hown3 hgrow3 _))
  have hb3 := (hb2.alloc hb2.size (.cells #[.int .i64 1, .string ((⟨#[]⟩ : ByteArray) ++ (⟨#[97, 123, 123, 34, 98, 34, 125, 125, 99]⟩ : ByteArray).extract 8 9), .int .i64 8] 132)).grown hgrow3 (by simp; omega) (fun j hj => (hown2.lt j hj).1)
  go_ret3
  exact ⟨_, rfl, hown3, hb3⟩
end Go.Proofs.YtnepogddjinpoaaGreatDoor
