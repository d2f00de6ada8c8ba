/-
  The page's example a{{"b"}}c: its action's pipeline.
-/
import Derived.Test.YtnepogddjinpoaaGreatDoorExWords
namespace Go.Proofs.YtnepogddjinpoaaGreatDoor
open Go.RowKit
set_option linter.unusedVariables false
set_option linter.unusedSimpArgs false

theorem zaddE (g i : Nat) : (⟨g, 0, none⟩ : Addr).add i = ⟨g, i, none⟩ := by unfold Addr.add; split <;> simp_all
/-- Cells in a block, from its beginning on. -/
structure AtB (w : World) (g : Nat) (cs : List Value) : Prop where
  lt : g < w.heap.size
  cell : ∀ i v, cs[i]? = some v → w.cell? ⟨g, i, none⟩ = some v
theorem AtB.below {w w' : World} {B g : Nat} {cs : List Value} (h : AtB w g cs) (hb : Below B w w') (hg : g < B) (hB : B ≤ w.heap.size) : AtB w' g cs :=
  ⟨Nat.lt_of_lt_of_le h.lt hb.size, fun i v hv => (hb.cell (p := ⟨g, i, none⟩) hg).trans (h.cell i v hv)⟩
theorem AtB.on {w w' : World} {g : Nat} {cs : List Value} (h : AtB w g cs) (hb : Below w.heap.size w w') : AtB w' g cs := h.below hb h.lt (Nat.le_refl _)
theorem AtB.of_blk {w : World} {g : Nat} {t : TypeId} {cs : List Value} (h : Blk w g t cs.toArray) : AtB w g cs :=
  ⟨h.lt, fun i v hv => by rw [h.cell i, List.getElem?_toArray]; exact hv⟩
theorem AtB.of_own {w : World} {base n size : Nat} {e : TypeId} {v : Value} {xs : List Value} (h : w.ownsRow base e size v n xs) (hn : n ≠ 0) : ∃ g c, v = .slice (some ⟨g, 0, none⟩) n c ∧ n ≤ c ∧ base ≤ g ∧ AtB w g xs := by
  rcases h.2 with ⟨_, h0⟩ | ⟨g, c, cur, rfl, hg, hb, hnc, _⟩
  · exact absurd h0 hn
  · refine ⟨g, c, rfl, hnc, (h.lt g rfl).1, ⟨?_, fun i u hu => ?_⟩⟩
    · exact (Array.getElem?_eq_some_iff.1 hb).1
    · have := h.cells (g := g) rfl i u hu
      rw [zaddE] at this; exact this
def exArg : List Value := [.int .i64 4, .string ⟨#[]⟩, .slice none 0 0, .int .i64 0, .string ⟨#[98]⟩]
set_option maxHeartbeats 4000000 in
set_option maxRecDepth 100000 in
theorem arg_ex (w : World) : Calls Tryz.prog 185 #[.agg #[.int .i64 5, .string ⟨#[98]⟩, .int .i64 1]] w fun e w' => e = .returned (.tuple #[.agg #[.int .i64 4, .string ⟨#[]⟩, .slice none 0 0, .int .i64 0, .string ⟨#[98]⟩], .int .i64 0]) ∧ Below w.heap.size w w' := by
  go_enter Tryz.func185, Tryz.ntmps185
  go_wp2_with fail
  simp [bodyPost, results, Tryz.results185, go_sem]
  exact ((Below.refl _ _).alloc (Nat.le_refl _) _).alloc (by simp) _
set_option maxHeartbeats 4000000 in
set_option maxRecDepth 100000 in
theorem call_ex (w : World) (g c : Nat) (h : AtB w g exWords) : Calls Tryz.prog 144 #[.slice (some ⟨g, 0, none⟩) 1 c, .bool false] w fun e w' => ∃ g1, e = .returned (.tuple #[.agg #[.string ⟨#[]⟩, .slice (some ⟨g1, 0, none⟩) 1 1], .int .i64 0, .int .i64 0]) ∧ w.heap.size ≤ g1 ∧ AtB w' g1 exArg ∧ Below w.heap.size w w' := by
  have c0 := h.cell 0 _ rfl; have c1 := h.cell 1 _ rfl; have c2 := h.cell 2 _ rfl
  have lt := h.lt
  have K0 := (Blk.new w 33 #[.string ⟨#[]⟩, .slice none 0 0]).alloc (.cells #[.int .i64 5, .string ⟨#[98]⟩, .int .i64 1] 153)
  have hb0 := ((Below.refl w.heap.size w).alloc (Nat.le_refl _) (.cells #[.string ⟨#[]⟩, .slice none 0 0] 33)).alloc (by simp) (.cells #[.int .i64 5, .string ⟨#[98]⟩, .int .i64 1] 153)
  go_enter Tryz.func144, Tryz.ntmps144
  go_wp2_with fail
  refine (arg_ex _).mono ?_
  rintro e w1 ⟨rfl, hb1⟩
  have K1 := K0.below hb1 K0.lt
  have hb2 := below_stepE hb0 hb1
  have r0 := K1.cell 0; have r1 := K1.cell 1
  have z0 := K1.frozen 0; have z1 := K1.frozen 1
  simp at r0 r1
  have l1 := K1.lt
  clear hb1 hb0 K0
  go_wp2_with fail
  have K5 := (((K1.set_ 0 (.string ⟨#[]⟩)).set_ 1 (.slice (some ⟨w1.heap.size + 1, 0, none⟩) 1 1)).alloc (.cells #[.int .i64 4, .string ⟨#[]⟩, .slice none 0 0, .int .i64 0, .string ⟨#[98]⟩] 35)).alloc (.cells #[.int .i64 4, .string ⟨#[]⟩, .slice none 0 0, .int .i64 0, .string ⟨#[98]⟩] 35)
  have hb5 := (((hb2.setCell (p := ⟨w.heap.size, 0, none⟩) (Nat.le_refl _) (.string ⟨#[]⟩)).setCell (p := ⟨w.heap.size, 1, none⟩) (Nat.le_refl _) (.slice (some ⟨w1.heap.size + 1, 0, none⟩) 1 1)).alloc (by have := hb2.size; simp; omega) (.cells #[.int .i64 4, .string ⟨#[]⟩, .slice none 0 0, .int .i64 0, .string ⟨#[98]⟩] 35)).alloc (by have := hb2.size; simp; omega) (.cells #[.int .i64 4, .string ⟨#[]⟩, .slice none 0 0, .int .i64 0, .string ⟨#[98]⟩] 35)
  have KA := Blk.new (((w1.setCell ⟨w.heap.size, 0, none⟩ (.string ⟨#[]⟩)).setCell ⟨w.heap.size, 1, none⟩ (.slice (some ⟨w1.heap.size + 1, 0, none⟩) 1 1)).alloc (.cells #[.int .i64 4, .string ⟨#[]⟩, .slice none 0 0, .int .i64 0, .string ⟨#[98]⟩] 35)) 35 #[.int .i64 4, .string ⟨#[]⟩, .slice none 0 0, .int .i64 0, .string ⟨#[98]⟩]
  have hge := hb2.size
  have hsz : (((w1.setCell ⟨w.heap.size, 0, none⟩ (.string ⟨#[]⟩)).setCell ⟨w.heap.size, 1, none⟩ (.slice (some ⟨w1.heap.size + 1, 0, none⟩) 1 1)).alloc (.cells #[.int .i64 4, .string ⟨#[]⟩, .slice none 0 0, .int .i64 0, .string ⟨#[98]⟩] 35)).heap.size = w1.heap.size + 1 := by simp
  rw [hsz] at KA
  simp only [Array.setIfInBounds] at K5
  generalize (((w1.setCell ⟨w.heap.size, 0, none⟩ (.string ⟨#[]⟩)).setCell ⟨w.heap.size, 1, none⟩ (.slice (some ⟨w1.heap.size + 1, 0, none⟩) 1 1)).alloc (.cells #[.int .i64 4, .string ⟨#[]⟩, .slice none 0 0, .int .i64 0, .string ⟨#[98]⟩] 35)).alloc (.cells #[.int .i64 4, .string ⟨#[]⟩, .slice none 0 0, .int .i64 0, .string ⟨#[98]⟩] 35) = w5 at K5 hb5 KA ⊢
  have o0 := K5.cell 0; have o1 := K5.cell 1
  simp at o0 o1
  simp [bodyPost, results, Tryz.results144, go_sem, o0, o1]
  exact ⟨by omega, AtB.of_blk (cs := exArg) KA, hb5⟩
theorem info_call : (Tryz.prog.info? 33).map (fun i => (i.zero, i.size, i.bytes)) = some (some (.agg #[.string ⟨#[]⟩, .slice none 0 0]), 2, 40) := by kernel_rfl
/-- The pipeline: one call of one argument. -/
structure ExPipe (w : World) (base : Nat) (v : Value) : Prop where
  some_ : ∃ g c g1, v = .slice (some ⟨g, 0, none⟩) 1 c ∧ 1 ≤ c ∧ base ≤ g ∧ base ≤ g1 ∧ AtB w g [.string ⟨#[]⟩, .slice (some ⟨g1, 0, none⟩) 1 1] ∧ AtB w g1 exArg
set_option maxHeartbeats 4000000 in
set_option maxRecDepth 100000 in
theorem parse19_ex (w : World) (g c : Nat) (h : AtB w g exWords) (hc : 1 ≤ c) : Calls Tryz.prog 111 #[.slice (some ⟨g, 0, none⟩) 1 c, .int .i64 1] w fun e w' => ∃ v, e = .returned (.tuple #[v, .int .i64 1, .int .i64 0]) ∧ ExPipe w' w.heap.size v ∧ Below w.heap.size w w' := by
  have c0 := h.cell 0 _ rfl; have c1 := h.cell 1 _ rfl; have c2 := h.cell 2 _ rfl
  have lt := h.lt
  obtain ⟨i0, hi, hz0, hz1, hz2⟩ := info_parts info_call
  have H := hide h
  go_enter Tryz.func111, Tryz.ntmps111
  go_wp2_with fail
  refine wp_loop_rounds 1 ?_
  rw [rounds_succ]
  go_wp2_with fail
  refine wp_loop_rounds 2 ?_
  rw [rounds_succ]
  go_wp2_with fail
  rw [rounds_succ]
  go_wp2_with fail
  refine (call_ex _ g _ H.out).mono ?_
  rintro e w1 ⟨g1, rfl, hg1, hA1, hb1⟩
  have hb3 := hb1.alloc hb1.size (.cells #[.string ⟨#[]⟩, .slice (some ⟨g1, 0, none⟩) 1 1] 33)
  have hs1 := hb1.size
  go_wp2_with (at_builtin; refine wpList_append_own _ rfl _ _ 22 rfl w.heap.size 33 i0 (.agg #[.string ⟨#[]⟩, .slice none 0 0]) 2 40 Tryz.underlying22 hi hz0 hz1 hz2 rfl (by decide) _ 0 _ rfl (World.ownsRow_nil _ _ _ _) ⟨w1.heap.size + 1, 0, none⟩ 1 1 [.string ⟨#[]⟩, .slice (some ⟨g1, 0, none⟩) 1 1] rfl rfl (by intro j u hj; match j, hj with | 0, hj => (simp at hj; subst hj; simp [Addr.add]) | 1, hj => (simp at hj; subst hj; simp [Addr.add])) (by intro u hu; simp at hu; rcases hu with rfl | rfl <;> rfl) (by unfold maxLen; omega) (by omega) (by have := hb1.size; simp; omega) ?_; intro v1 w4 hown4 hgrow4 _)
  have hb4 := (hb3.alloc hb3.size (.cells #[.string ⟨#[]⟩, .slice (some ⟨g1, 0, none⟩) 1 1] 33)).grown hgrow4 (by have := hb1.size; simp; omega) (fun j hj => by cases hj)
  have hA4 : AtB w4 g1 exArg := by
    have hB := ((Below.refl w1.heap.size w1).alloc (Nat.le_refl _) (.cells #[.string ⟨#[]⟩, .slice (some ⟨g1, 0, none⟩) 1 1] 33)).alloc (by simp) (.cells #[.string ⟨#[]⟩, .slice (some ⟨g1, 0, none⟩) 1 1] 33)
    exact hA1.on (hB.grown hgrow4 (by simp; omega) (fun j hj => by cases hj))
  obtain ⟨g4, c4, rfl, hc4, hg4, hAt4⟩ := AtB.of_own hown4 (by decide)
  go_wp2_with fail
  go_ret3
  exact ⟨_, rfl, ⟨g4, c4, g1, rfl, hc4, hg4, hg1, hAt4, hA4⟩, hb4⟩
end Go.Proofs.YtnepogddjinpoaaGreatDoor
