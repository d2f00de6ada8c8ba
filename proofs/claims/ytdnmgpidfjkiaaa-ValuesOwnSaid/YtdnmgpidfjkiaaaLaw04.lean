/-
  muslinlaw04.alive: a list of two is printed, and may be.
-/
import Derived.Test.YtdnmgpidfjkiaaaValL
import Derived.Test.YtdnmgpidfjkiaaaShelf
namespace Go.Proofs.Ytdnmgpidfjkiaaa
open Go.RowKit
set_option linter.unusedVariables false
set_option linter.unusedSimpArgs false

abbrev TwoRow (w : World) (r : Nat) : Prop := Blk w r 25 #[.int .i64 3, .int .i64 1, .string ⟨#[]⟩, .slice none 0 0, .slice none 0 0, .int .i64 3, .int .i64 2, .string ⟨#[]⟩, .slice none 0 0, .slice none 0 0]
set_option maxHeartbeats 1000000 in
set_option maxRecDepth 100000 in
theorem print_list (r : Nat) (w : World) (hr : r < w.heap.size) (hX : TwoRow w r) : Calls Try.prog 32 #[.agg #[.int .i64 5, .int .i64 0, .string ⟨#[]⟩, .slice (some ⟨r, 0, none⟩) 2 2, .slice none 0 0]] w fun e w' => e = .returned (.string ⟨#[91, 49, 32, 50, 93]⟩) ∧ Below w.heap.size w w' := by
  have hF := Lib.fresh_isBuilder 79 5 (w.alloc (.cells #[.int .i64 5, .int .i64 0, .string ⟨#[]⟩, .slice (some ⟨r, 0, none⟩) 2 2, .slice none 0 0] 25))
  have hF2 : IsB (w.heap.size + 1) (w.heap.size + 1) [] ((w.alloc (.cells #[.int .i64 5, .int .i64 0, .string ⟨#[]⟩, .slice (some ⟨r, 0, none⟩) 2 2, .slice none 0 0] 25)).alloc (.cells #[.pointer none, .slice none 0 0] 79)) := by
    show Lib.IsBuilder _ _ _ _ [] _
    simpa using hF
  have HF := hide hF2
  clear hF hF2
  go_enter Try.func32, Try.ntmps32
  go_wp2_with fail
  refine (wByte (w.heap.size + 1) (w.heap.size + 1) [] 91 _ HF.out (by decide) (by simp)).mono ?_
  rintro e w1 ⟨rfl, hI1, hb1, hs1⟩
  have hX1 : TwoRow w1 r := ((hX.alloc _).alloc _).below hb1 (by omega)
  have hbox : Blk w1 w.heap.size 25 #[.int .i64 5, .int .i64 0, .string ⟨#[]⟩, .slice (some ⟨r, 0, none⟩) 2 2, .slice none 0 0] := ((Blk.new _ _ _).alloc _).below hb1 (by omega)
  have hB : Below w.heap.size w w1 := (((Below.refl _ _).alloc (Nat.le_refl _) _).alloc (by simp) _).trans (hb1.mono (by omega))
  have hz1 := hb1.size
  simp at hz1
  have c3 := hbox.cell 3
  simp at c3
  clear hb1 hs1
  go_wp2_with fail
  refine (all_two (w.heap.size + 1) (w.heap.size + 1) r w1 hI1 (by omega) (by omega) hX1).mono ?_
  rintro e w2 ⟨rfl, hI2, hb2⟩
  have hz2 := hb2.size
  have hB := hB.trans (hb2.mono (by omega))
  clear hb2 hX1 hbox c3 hI1
  go_wp2_with fail
  refine (wByte (w.heap.size + 1) (w.heap.size + 1) [91, 49, 32, 50] 93 _ hI2 (by decide) (by omega)).mono ?_
  rintro e w3 ⟨rfl, hI3, hb3, _⟩
  have hB := hB.trans (hb3.mono (by omega))
  clear hb3 hI2
  have cS := hide (Try.Builder_String (w.heap.size + 1) (w.heap.size + 1) ([91, 49, 32, 50] ++ [93]) w3 hI3 (by decide))
  clear hI3
  go_wp2_with (go_at_call 50; refine (cS.out).mono ?_; rintro e w4 ⟨rfl, hb4⟩)
  go_ret
  exact ⟨rfl, hB.trans (hb4.mono (by omega))⟩

set_option maxHeartbeats 1000000 in
set_option maxRecDepth 100000 in
theorem nested_list (r : Nat) (w : World) (hr : r < w.heap.size) (hX : TwoRow w r) : Calls Try.prog 51 #[.agg #[.int .i64 5, .int .i64 0, .string ⟨#[]⟩, .slice (some ⟨r, 0, none⟩) 2 2, .slice none 0 0], .int .i64 16] w fun e w' => e = .returned (.int .i64 0) ∧ Below w.heap.size w w' := by
  go_enter Try.func51, Try.ntmps51
  go_wp2_with fail
  refine (used_list _ _).mono ?_
  rintro e w1 ⟨rfl, hb1⟩
  have hbox : Blk w1 w.heap.size 25 #[.int .i64 5, .int .i64 0, .string ⟨#[]⟩, .slice (some ⟨r, 0, none⟩) 2 2, .slice none 0 0] := (Blk.new _ _ _).below hb1 (by simp)
  have hl := hbox.lt
  have c0 := hbox.cell 0; have c1 := hbox.cell 1; have c2 := hbox.cell 2; have c3 := hbox.cell 3; have c4 := hbox.cell 4
  simp at c0 c1 c2 c3 c4
  go_wp2_with fail
  refine (keys_no _ _ _ _ (by decide) _).mono ?_
  rintro e w2 ⟨rfl, hb2⟩
  have hbox := hbox.below hb2 hl
  clear c0 c1 c2 c3 c4
  have c3 := hbox.cell 3
  simp at c3
  have hB : Below w.heap.size w w2 := ((Below.refl _ _).alloc (Nat.le_refl _) _).trans ((below_step hb1 hb2).mono (by simp))
  clear hb1 hb2 hl hbox
  go_wp2_with fail
  clear c3
  go_loopw [48] (fun i wr => ∃ k : Nat, i = .int .i64 (k : Int) ∧ k ≤ 2 ∧ Below w.heap.size w wr) (fun i _ => 2 - (intOf i).toNat)
  case atStart => exact ⟨0, rfl, by omega, hB⟩
  case round =>
    obtain ⟨k, rfl, hk, hb⟩ := hrel
    have hX := hX.below hb hr
    have hk3 : k = 0 ∨ k = 1 ∨ k = 2 := by omega
    rcases hk3 with rfl | rfl | rfl
    · have c0 := hX.cell 0; have c1 := hX.cell 1; have c2 := hX.cell 2; have c3 := hX.cell 3; have c4 := hX.cell 4
      simp at c0 c1 c2 c3 c4
      go_wp2_with (go_at_call 51; refine (nested_num _ _ _).mono ?_; rintro e w3 ⟨rfl, hb3⟩)
      go_roundw
      case rel => exact ⟨1, rfl, by omega, hb.trans (((Below.refl _ _).alloc (Nat.le_refl _) _ |>.trans (hb3.mono (by simp))).mono hb.size)⟩
      case measure => simp [intOf]
    · have c0 := hX.cell 5; have c1 := hX.cell 6; have c2 := hX.cell 7; have c3 := hX.cell 8; have c4 := hX.cell 9
      simp at c0 c1 c2 c3 c4
      go_wp2_with (go_at_call 51; refine (nested_num _ _ _).mono ?_; rintro e w3 ⟨rfl, hb3⟩)
      go_roundw
      case rel => exact ⟨2, rfl, by omega, hb.trans (((Below.refl _ _).alloc (Nat.le_refl _) _ |>.trans (hb3.mono (by simp))).mono hb.size)⟩
      case measure => simp [intOf]
    · go_wp2_with fail
      go_ret
      exact ⟨rfl, hb⟩
theorem check_list (r : Nat) (w : World) (hr : r < w.heap.size) (hX : TwoRow w r) : Calls Try.prog 34 #[.agg #[.int .i64 5, .int .i64 0, .string ⟨#[]⟩, .slice (some ⟨r, 0, none⟩) 2 2, .slice none 0 0]] w fun e w' => e = .returned (.int .i64 0) ∧ Below w.heap.size w w' := by
  have c := hide (fun w' (hb : Below w.heap.size w w') => nested_list r w' (by have := hb.size; omega) (hX.below hb hr))
  go_enter Try.func34, Try.ntmps34
  go_wp2_with (go_at_call 51; refine (c.out _ (by first | exact Below.refl _ _ | exact (Below.refl _ _).alloc (Nat.le_refl _) _)).mono ?_; rintro e w1 ⟨rfl, hb⟩)
  go_ret
  exact ⟨rfl, by first | exact hb | exact ((Below.refl _ _).alloc (Nat.le_refl _) _).trans (hb.mono (by simp))⟩
theorem truth_list (r : Nat) (w : World) : Calls Try.prog 33 #[.agg #[.int .i64 5, .int .i64 0, .string ⟨#[]⟩, .slice (some ⟨r, 0, none⟩) 2 2, .slice none 0 0]] w fun e w' => e = .returned (.bool true) ∧ Below w.heap.size w w' := by
  go_enter Try.func33, Try.ntmps33
  go_wp2_with fail
  go_ret
  exact ⟨rfl, (Below.refl _ _).alloc (Nat.le_refl _) _⟩
theorem int_any (n : Int) (w : World) : Calls Try.prog 30 #[.int .i64 n] w fun e w' => e = .returned (.agg #[.int .i64 3, .int .i64 n, .string ⟨#[]⟩, .slice none 0 0, .slice none 0 0]) ∧ Below w.heap.size w w' := by
  go_enter Try.func30, Try.ntmps30
  go_wp2_with fail
  (try simp only [Exit.inBlock, Exit.then])
  exact bodyPost_ret (v := .agg #[.int .i64 3, .int .i64 n, .string ⟨#[]⟩, .slice none 0 0, .slice none 0 0]) (results_cell_row rfl _ _ w.heap.size 25 _ (0, 0) _ rfl (heap_alloc_new w _) Try.underlying25 rfl (by kernel_rfl)) rfl ⟨rfl, (Below.refl _ _).alloc (Nat.le_refl _) _⟩
theorem text_any (s : ByteArray) (w : World) : Calls Try.prog 31 #[.string s] w fun e w' => e = .returned (.agg #[.int .i64 4, .int .i64 0, .string s, .slice none 0 0, .slice none 0 0]) ∧ Below w.heap.size w w' := by
  go_enter Try.func31, Try.ntmps31
  go_wp2_with fail
  (try simp only [Exit.inBlock, Exit.then])
  exact bodyPost_ret (v := .agg #[.int .i64 4, .int .i64 0, .string s, .slice none 0 0, .slice none 0 0]) (results_cell_row rfl _ _ w.heap.size 25 _ (0, 0) _ rfl (heap_alloc_new w _) Try.underlying25 rfl (by kernel_rfl)) rfl ⟨rfl, (Below.refl _ _).alloc (Nat.le_refl _) _⟩
theorem refInt_any (n : Int) (w : World) : Calls Try.prog 26 #[.int .i64 n] w fun e w' => e = .returned (.agg #[.int .i64 3, .int .i64 n, .string ⟨#[]⟩, .slice none 0 0, .slice none 0 0]) ∧ Below w.heap.size w w' := by
  go_enter Try.func26, Try.ntmps26
  go_wp2_with fail
  (try simp only [Exit.inBlock, Exit.then])
  exact bodyPost_ret (v := .agg #[.int .i64 3, .int .i64 n, .string ⟨#[]⟩, .slice none 0 0, .slice none 0 0]) (results_cell_row rfl _ _ w.heap.size 25 _ (0, 0) _ rfl (heap_alloc_new w _) Try.underlying25 rfl (by kernel_rfl)) rfl ⟨rfl, (Below.refl _ _).alloc (Nat.le_refl _) _⟩
theorem refText_any (s : ByteArray) (w : World) : Calls Try.prog 37 #[.string s] w fun e w' => e = .returned (.agg #[.int .i64 4, .int .i64 0, .string s, .slice none 0 0, .slice none 0 0]) ∧ Below w.heap.size w w' := by
  go_enter Try.func37, Try.ntmps37
  go_wp2_with fail
  (try simp only [Exit.inBlock, Exit.then])
  exact bodyPost_ret (v := .agg #[.int .i64 4, .int .i64 0, .string s, .slice none 0 0, .slice none 0 0]) (results_cell_row rfl _ _ w.heap.size 25 _ (0, 0) _ rfl (heap_alloc_new w _) Try.underlying25 rfl (by kernel_rfl)) rfl ⟨rfl, (Below.refl _ _).alloc (Nat.le_refl _) _⟩
set_option maxHeartbeats 1000000 in
set_option maxRecDepth 100000 in
theorem alive04 (w : World) : Calls Try.prog 12 #[] w fun e w' => e = .returned (.bool true) ∧ Below w.heap.size w w' := by
  go_enter Try.func12, Try.ntmps12
  go_wp2_with fail
  refine (int_any 1 _).mono ?_
  rintro e w1 ⟨rfl, hb1⟩
  go_wp2_with fail
  refine (int_any 2 _).mono ?_
  rintro e w2 ⟨rfl, hb2⟩
  have hB := below_step hb1 hb2
  clear hb1 hb2
  have hX : TwoRow ((w2.alloc (.cells #[.int .i64 3, .int .i64 1, .string ⟨#[]⟩, .slice none 0 0, .slice none 0 0, .int .i64 3, .int .i64 2, .string ⟨#[]⟩, .slice none 0 0, .slice none 0 0] 25)).alloc (.cells #[.int .i64 5, .int .i64 0, .string ⟨#[]⟩, .slice (some ⟨w2.heap.size, 0, none⟩) 2 2, .slice none 0 0] 25)) w2.heap.size := (Blk.new _ _ _).alloc _
  have hY : Blk ((w2.alloc (.cells #[.int .i64 3, .int .i64 1, .string ⟨#[]⟩, .slice none 0 0, .slice none 0 0, .int .i64 3, .int .i64 2, .string ⟨#[]⟩, .slice none 0 0, .slice none 0 0] 25)).alloc (.cells #[.int .i64 5, .int .i64 0, .string ⟨#[]⟩, .slice (some ⟨w2.heap.size, 0, none⟩) 2 2, .slice none 0 0] 25)) (w2.heap.size + 1) 25 #[.int .i64 5, .int .i64 0, .string ⟨#[]⟩, .slice (some ⟨w2.heap.size, 0, none⟩) 2 2, .slice none 0 0] := by
    have := Blk.new (w2.alloc (.cells #[.int .i64 3, .int .i64 1, .string ⟨#[]⟩, .slice none 0 0, .slice none 0 0, .int .i64 3, .int .i64 2, .string ⟨#[]⟩, .slice none 0 0, .slice none 0 0] 25)) 25 #[.int .i64 5, .int .i64 0, .string ⟨#[]⟩, .slice (some ⟨w2.heap.size, 0, none⟩) 2 2, .slice none 0 0]
    simpa using this
  have hB2 : Below w2.heap.size w2 ((w2.alloc (.cells #[.int .i64 3, .int .i64 1, .string ⟨#[]⟩, .slice none 0 0, .slice none 0 0, .int .i64 3, .int .i64 2, .string ⟨#[]⟩, .slice none 0 0, .slice none 0 0] 25)).alloc (.cells #[.int .i64 5, .int .i64 0, .string ⟨#[]⟩, .slice (some ⟨w2.heap.size, 0, none⟩) 2 2, .slice none 0 0] 25)) := ((Below.refl _ _).alloc (Nat.le_refl _) _).alloc (by simp) _
  have hB := below_step hB hB2
  clear hB2
  go_wp2_with fail
  refine (print_list w2.heap.size _ hX.lt hX).mono ?_
  rintro e w3 ⟨rfl, hb3⟩
  have hX := hX.below hb3 hX.lt
  have hY := hY.below hb3 hY.lt
  have hB := below_step hB hb3
  clear hb3
  have c0 := hY.cell 0; have c1 := hY.cell 1; have c2 := hY.cell 2; have c3 := hY.cell 3; have c4 := hY.cell 4
  simp at c0 c1 c2 c3 c4
  go_wp2_with fail
  refine (truth_list _ _).mono ?_
  rintro e w4 ⟨rfl, hb4⟩
  have hX := hX.below hb4 hX.lt
  have hY := hY.below hb4 hY.lt
  have hB := below_step hB hb4
  clear hb4 c0 c1 c2 c3 c4
  have c0 := hY.cell 0; have c1 := hY.cell 1; have c2 := hY.cell 2; have c3 := hY.cell 3; have c4 := hY.cell 4
  simp at c0 c1 c2 c3 c4
  have cK := hide (check_list w2.heap.size w4 hX.lt hX)
  go_wp2_with (first | (go_at_call 34; refine (cK.out).mono ?_; rintro e w5 ⟨rfl, hb5⟩) | (go_at_call 20; go_in))
  go_ret
  exact ⟨rfl, below_step hB hb5⟩
end Go.Proofs.Ytdnmgpidfjkiaaa
