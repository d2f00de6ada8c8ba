/-
  Values that hold no others: Text, Int, Same, Truth, Plain, Print.
-/
import Derived.Test.YtdnmgpidfjkiaaaBuilder
import Derived.Test.YtdnmgpidfjkiaaaPrint
import Derived.Deep.RegionWith
import Derived.Deep.QuietTactic
import Derived.BigQuiet
import Derived.Shelf.Abstract
namespace Go.Proofs.Ytdnmgpidfjkiaaa
open Go.RowKit
set_option linter.unusedVariables false
set_option linter.unusedSimpArgs false

@[go_sem] theorem run_makeFuncV (P : Program) (fn : Fn) (first cap : Array Value) (w : World) : (Instr.makeFunc fn first cap).run P w = .ok (.func fn first cap) w := rfl

set_option maxHeartbeats 1000000 in
set_option maxRecDepth 100000 in
theorem refSame_leaf (k n : Int) (s : ByteArray) (w : World) : Calls Try.prog 11 #[.agg #[.int .i64 k, .int .i64 n, .string s, .slice none 0 0, .slice none 0 0], .agg #[.int .i64 k, .int .i64 n, .string s, .slice none 0 0, .slice none 0 0]] w fun e w' => e = .returned (.bool true) ∧ Below w.heap.size w w' := by
  go_enter Try.func11, Try.ntmps11
  go_wp2_with fail
  go_loop [5] (fun i => i = .int .i64 0) (fun _ => 0)
  case atStart => rfl
  case round =>
    subst hrel
    go_wp2_with fail
    go_loop [6] (fun i => i = .int .i64 0) (fun _ => 0)
    case atStart => rfl
    case round =>
      subst hrel
      go_wp2_with fail
      go_ret
      exact ⟨rfl, ((Below.refl _ _).alloc (Nat.le_refl _) _).alloc (by simp) _⟩
set_option maxHeartbeats 1000000 in
set_option maxRecDepth 100000 in
theorem print_text (s : ByteArray) (w : World) : Calls Try.prog 32 #[.agg #[.int .i64 4, .int .i64 0, .string s, .slice none 0 0, .slice none 0 0]] w fun e w' => e = .returned (.string s) ∧ Below w.heap.size w w' := by
  go_enter Try.func32, Try.ntmps32
  go_wp2_with fail
  go_ret
  exact ⟨rfl, ((Below.refl _ _).alloc (Nat.le_refl _) _).alloc (by simp) _⟩
set_option maxHeartbeats 1000000 in
set_option maxRecDepth 100000 in
theorem print_num (n : Int) (w : World) (lo : -9223372036854775808 ≤ n) (hi : n ≤ 9223372036854775807) : Calls Try.prog 32 #[.agg #[.int .i64 3, .int .i64 n, .string ⟨#[]⟩, .slice none 0 0, .slice none 0 0]] w fun e w' => e = .returned (.string ⟨(pInt n).toArray⟩) ∧ Below w.heap.size w w' := by
  have cI := hide (fun w => print_any n w lo hi)
  go_enter Try.func32, Try.ntmps32
  go_wp2_with (go_at_call 45; refine (cI.out _).mono ?_; rintro e w1 ⟨rfl, hb⟩)
  go_ret
  exact ⟨rfl, (((Below.refl _ _).alloc (Nat.le_refl _) _).alloc (by simp) _).trans (hb.mono (by simp; omega))⟩
set_option maxHeartbeats 1000000 in
set_option maxRecDepth 100000 in
theorem truth_text (s : ByteArray) (w : World) : Calls Try.prog 33 #[.agg #[.int .i64 4, .int .i64 0, .string s, .slice none 0 0, .slice none 0 0]] w fun e w' => e = .returned (.bool (!s.toList.isEmpty)) ∧ Below w.heap.size w w' := by
  rcases Bool.eq_false_or_eq_true s.toList.isEmpty with h | h
  all_goals
    rw [h]
    go_enter Try.func33, Try.ntmps33
    go_wp2_with fail
    go_ret
    exact ⟨rfl, (Below.refl _ _).alloc (Nat.le_refl _) _⟩
set_option maxHeartbeats 1000000 in
set_option maxRecDepth 100000 in
theorem truth_num (n : Int) (w : World) : Calls Try.prog 33 #[.agg #[.int .i64 3, .int .i64 n, .string ⟨#[]⟩, .slice none 0 0, .slice none 0 0]] w fun e w' => e = .returned (.bool (n != 0)) ∧ Below w.heap.size w w' := by
  go_enter Try.func33, Try.ntmps33
  go_wp2_with fail
  go_ret
  exact ⟨rfl, (Below.refl _ _).alloc (Nat.le_refl _) _⟩
set_option maxHeartbeats 1000000 in
set_option maxRecDepth 100000 in
theorem used_num (n : Int) (w : World) : Calls Try.prog 66 #[.agg #[.int .i64 3, .int .i64 n, .string ⟨#[]⟩, .slice none 0 0, .slice none 0 0]] w fun e w' => e = .returned (.bool true) ∧ Below w.heap.size w w' := by
  go_enter Try.func66, Try.ntmps66
  go_wp2_with fail
  go_ret
  exact ⟨rfl, (Below.refl _ _).alloc (Nat.le_refl _) _⟩
set_option maxHeartbeats 1000000 in
set_option maxRecDepth 100000 in
theorem used_list (r : Nat) (w : World) : Calls Try.prog 66 #[.agg #[.int .i64 5, .int .i64 0, .string ⟨#[]⟩, .slice (some ⟨r, 0, none⟩) 2 2, .slice none 0 0]] w fun e w' => e = .returned (.bool true) ∧ Below w.heap.size w w' := by
  go_enter Try.func66, Try.ntmps66
  go_wp2_with fail
  go_ret
  exact ⟨rfl, (Below.refl _ _).alloc (Nat.le_refl _) _⟩
set_option maxHeartbeats 1000000 in
set_option maxRecDepth 100000 in
theorem keys_no (k n : Int) (s : ByteArray) (l : Value) (hk : (k != 6) = true) (w : World) : Calls Try.prog 67 #[.agg #[.int .i64 k, .int .i64 n, .string s, l, .slice none 0 0]] w fun e w' => e = .returned (.bool true) ∧ Below w.heap.size w w' := by
  go_enter Try.func67, Try.ntmps67
  go_wp2_with fail
  go_ret
  exact ⟨rfl, (Below.refl _ _).alloc (Nat.le_refl _) _⟩
set_option maxHeartbeats 1000000 in
set_option maxRecDepth 100000 in
theorem nested_num (n left : Int) (w : World) : Calls Try.prog 51 #[.agg #[.int .i64 3, .int .i64 n, .string ⟨#[]⟩, .slice none 0 0, .slice none 0 0], .int .i64 left] w fun e w' => e = .returned (.int .i64 0) ∧ Below w.heap.size w w' := by
  go_enter Try.func51, Try.ntmps51
  go_wp2_with fail
  refine (used_num _ _).mono ?_
  rintro e w1 ⟨rfl, hb1⟩
  have hX : Blk w1 w.heap.size 25 #[.int .i64 3, .int .i64 n, .string ⟨#[]⟩, .slice none 0 0, .slice none 0 0] := (Blk.new _ _ _).below hb1 (by simp)
  have hl := hX.lt
  have c0 := hX.cell 0; have c1 := hX.cell 1; have c2 := hX.cell 2; have c3 := hX.cell 3; have c4 := hX.cell 4
  simp at c0 c1 c2 c3 c4
  go_wp2_with fail
  refine (keys_no _ _ _ _ (by decide) _).mono ?_
  rintro e w2 ⟨rfl, hb2⟩
  have hX := hX.below hb2 hl
  have hl2 := hX.lt
  clear c0 c1 c2 c3 c4
  have c3 := hX.cell 3
  simp at c3
  go_wp2_with fail
  have hB : Below w.heap.size w w2 := ((Below.refl _ _).alloc (Nat.le_refl _) _).trans ((below_step hb1 hb2).mono (by simp))
  clear hb1 hb2 hX hl hl2
  go_loop [48] (fun i => i = .int .i64 0) (fun _ => 0)
  case atStart => rfl
  case round =>
    subst hrel
    go_wp2_with fail
    go_ret
    exact ⟨rfl, hB⟩
theorem print1_any (n : Int) (w : World) : Calls Try.prog 48 #[.int .i64 n] w fun e w' => e = .returned (.string ⟨#[]⟩) ∧ w = w' := by
  go_enter Try.func48, Try.ntmps48
  go_wp2
  go_ret
  exact ⟨rfl, rfl⟩
theorem isB_lt {B b : Nat} {l : List Value} {w : World} (h : Lib.IsBuilder 79 5 B b l w) : b < w.heap.size := by rcases h with h | h <;> exact h.lt
abbrev IsB (B b : Nat) (l : List UInt8) (w : World) : Prop := Lib.IsBuilder 79 5 B b (Lib.byteCells l) w
theorem wByte (B b : Nat) (l : List UInt8) (c : UInt8) (w : World) (h : IsB B b l w) (hlen : l.length ≤ 1000) (hBw : B ≤ w.heap.size) :
    Calls Try.prog 46 #[.pointer (some ⟨b, 0, none⟩), .int .u8 (c.toNat : Int)] w fun e w' => e = .returned .nilIface ∧ IsB B b (l ++ [c]) w' ∧ Below B w w' ∧ Spare b w w' :=
  (writeByte_any B b _ _ w h (by rw [Lib.byteCells_length]; omega) hBw).mono fun e w' ⟨h1, h2, h3, h4⟩ => ⟨h1, .inr (by rw [show Lib.byteCells (l ++ [c]) = Lib.byteCells l ++ [.int .u8 (c.toNat : Int)] by simp [Lib.byteCells]]; exact h2), h3, h4⟩
theorem wStr (B b : Nat) (l m : List UInt8) (w : World) (h : IsB B b l w) (hlen : l.length ≤ 1000) (hm : m.length ≤ 1000) (hBw : B ≤ w.heap.size) :
    Calls Try.prog 65 #[.pointer (some ⟨b, 0, none⟩), .string ⟨m.toArray⟩] w fun e w' => (∃ v, e = .returned v) ∧ IsB B b (l ++ m) w' ∧ Below B w w' ∧ Spare b w w' :=
  (writeString_any B b _ ⟨m.toArray⟩ w h (by rw [Lib.byteCells_length]; simp [ByteArray.size]; omega) hBw).mono fun e w' ⟨h1, h2, h3, h4⟩ => ⟨⟨_, h1⟩, .inr (by rw [show Lib.byteCells (l ++ m) = Lib.byteCells l ++ Lib.strCells ⟨m.toArray⟩ by simp [Lib.byteCells, Lib.strCells]]; exact h2), h3, h4⟩
theorem pInt1 : pInt 1 = [49] := by decide +kernel
theorem pInt2 : pInt 2 = [50] := by decide +kernel

set_option maxHeartbeats 2000000 in
set_option maxRecDepth 100000 in
theorem all_two (B b r : Nat) (w : World) (h : IsB B b [91] w) (hr : r < B) (hBw : B ≤ w.heap.size)
    (hX : Blk w r 25 #[.int .i64 3, .int .i64 1, .string ⟨#[]⟩, .slice none 0 0, .slice none 0 0, .int .i64 3, .int .i64 2, .string ⟨#[]⟩, .slice none 0 0, .slice none 0 0]) :
    Calls Try.prog 47 #[.pointer (some ⟨b, 0, none⟩), .slice (some ⟨r, 0, none⟩) 2 2, .func (.func 48) #[] #[]] w fun e w' => e = .returned (.tuple #[]) ∧ IsB B b [91, 49, 32, 50] w' ∧ Below B w w' := by
  go_enter Try.func47, Try.ntmps47
  go_wp2_with fail
  go_loopw [10] (fun i wr => ((i = .int .i64 0 ∧ IsB B b [91] wr) ∨ (i = .int .i64 1 ∧ IsB B b [91, 49] wr) ∨ (i = .int .i64 2 ∧ IsB B b [91, 49, 32, 50] wr)) ∧ Below B w wr) (fun i _ => 2 - (intOf i).toNat)
  case atStart => exact ⟨.inl ⟨rfl, h⟩, Below.refl _ _⟩
  case round =>
    obtain ⟨hrel, hb⟩ := hrel
    rcases hrel with ⟨rfl, hI⟩ | ⟨rfl, hI⟩ | ⟨rfl, hI⟩
    · have hX := hX.below hb hr
      have c0 := hX.cell 0; have c1 := hX.cell 1; have c2 := hX.cell 2; have c3 := hX.cell 3; have c4 := hX.cell 4
      simp at c0 c1 c2 c3 c4
      have hbl := isB_lt hI
      have hBr := hb.size
      have hbox := Blk.new wr 25 #[.int .i64 3, .int .i64 1, .string ⟨#[]⟩, .slice none 0 0, .slice none 0 0]
      have hI0 := isB_keep hI (((Below.refl _ wr).alloc (Nat.le_refl _) (.cells #[.int .i64 3, .int .i64 1, .string ⟨#[]⟩, .slice none 0 0, .slice none 0 0] 25)))
      have hb0 := hb.alloc (by omega) (.cells #[.int .i64 3, .int .i64 1, .string ⟨#[]⟩, .slice none 0 0, .slice none 0 0] 25)
      go_wp2_with (go_at_call 48; refine (print1_any _ _).mono ?_; rintro e w1 ⟨rfl, rfl⟩)
      refine (wStr B b [91] [] _ hI0 (by decide) (by decide) (by have := hb0.size; omega)).mono ?_
      rintro e w2 ⟨⟨v, rfl⟩, hI2, hb2, hs2⟩
      have hbox := hs2.blk hbox (by decide) (by omega)
      have hb0 := hb0.trans hb2
      clear hb2 hs2 c0 c1 c2 c3 c4
      have c0 := hbox.cell 0; have c1 := hbox.cell 1; have c2 := hbox.cell 2; have c3 := hbox.cell 3; have c4 := hbox.cell 4
      simp at c0 c1 c2 c3 c4
      go_wp2_with fail
      refine (print_num 1 _ (by decide) (by decide)).mono ?_
      rintro e w3 ⟨rfl, hb3⟩
      rw [pInt1]
      have hI3 := isB_keep hI2 hb3
      have hb0 := hb0.trans (hb3.mono (by have := hb0.size; omega))
      go_wp2_with fail
      refine (wStr B b ([91] ++ []) [49] _ hI3 (by decide) (by decide) (by have := hb0.size; omega)).mono ?_
      rintro e w4 ⟨⟨v4, rfl⟩, hI4, hb4, hs4⟩
      have hb0 := hb0.trans hb4
      clear hI hI0 hI2 hI3 hb hb4 hs4 hb3 c0 c1 c2 c3 c4 hbox hX
      go_wp2_with fail
      go_roundw
      case rel => exact ⟨.inr (.inl ⟨rfl, hI4⟩), hb0⟩
      case measure => simp [intOf]
    · have hX := hX.below hb hr
      have c0 := hX.cell 5; have c1 := hX.cell 6; have c2 := hX.cell 7; have c3 := hX.cell 8; have c4 := hX.cell 9
      simp at c0 c1 c2 c3 c4
      have hbl := isB_lt hI
      have hBr := hb.size
      have hbox := Blk.new wr 25 #[.int .i64 3, .int .i64 2, .string ⟨#[]⟩, .slice none 0 0, .slice none 0 0]
      have hI0 := isB_keep hI (((Below.refl _ wr).alloc (Nat.le_refl _) (.cells #[.int .i64 3, .int .i64 2, .string ⟨#[]⟩, .slice none 0 0, .slice none 0 0] 25)))
      have hb0 := hb.alloc (by omega) (.cells #[.int .i64 3, .int .i64 2, .string ⟨#[]⟩, .slice none 0 0, .slice none 0 0] 25)
      go_wp2_with fail
      refine (wByte B b [91, 49] 32 _ hI0 (by decide) (by have := hb0.size; omega)).mono ?_
      rintro e w1 ⟨rfl, hI1, hb1, hs1⟩
      have hbox := hs1.blk hbox (by decide) (by omega)
      have hb0 := hb0.trans hb1
      clear hb1 hs1 hI0
      have hI0 := hI1
      go_wp2_with (go_at_call 48; refine (print1_any _ _).mono ?_; rintro e w1 ⟨rfl, rfl⟩)
      refine (wStr B b [91, 49, 32] [] _ hI0 (by decide) (by decide) (by have := hb0.size; omega)).mono ?_
      rintro e w2 ⟨⟨v, rfl⟩, hI2, hb2, hs2⟩
      have hbox := hs2.blk hbox (by decide) (by omega)
      have hb0 := hb0.trans hb2
      clear hb2 hs2 c0 c1 c2 c3 c4
      have c0 := hbox.cell 0; have c1 := hbox.cell 1; have c2 := hbox.cell 2; have c3 := hbox.cell 3; have c4 := hbox.cell 4
      simp at c0 c1 c2 c3 c4
      go_wp2_with fail
      refine (print_num 2 _ (by decide) (by decide)).mono ?_
      rintro e w3 ⟨rfl, hb3⟩
      rw [pInt2]
      have hI3 := isB_keep hI2 hb3
      have hb0 := hb0.trans (hb3.mono (by have := hb0.size; omega))
      go_wp2_with fail
      refine (wStr B b ([91, 49, 32] ++ []) [50] _ hI3 (by decide) (by decide) (by have := hb0.size; omega)).mono ?_
      rintro e w4 ⟨⟨v4, rfl⟩, hI4, hb4, hs4⟩
      have hb0 := hb0.trans hb4
      clear hI hI0 hI2 hI3 hb hb4 hs4 hb3 c0 c1 c2 c3 c4 hbox hX
      go_wp2_with fail
      go_roundw
      case rel => exact ⟨.inr (.inr ⟨rfl, hI4⟩), hb0⟩
      case measure => simp [intOf]
    · go_wp2_with fail
      go_end0
      exact ⟨rfl, hI, hb⟩
end Go.Proofs.Ytdnmgpidfjkiaaa
