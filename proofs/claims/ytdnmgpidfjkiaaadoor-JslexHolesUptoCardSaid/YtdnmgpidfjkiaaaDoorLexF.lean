/-
  jslex: need, the deferred closure of Pieces.
-/
import Derived.Test.YtdnmgpidfjkiaaaDoorLexE
import Derived.Defers
import Derived.Recover
namespace Go.Proofs.YtdnmgpidfjkiaaaDoor
open Go.RowKit
set_option linter.unusedVariables false
set_option linter.unusedSimpArgs false

abbrev faultV (x y : Int) : Value := .iface 68 (.agg #[.int .i64 x, .int .i64 y])
set_option maxHeartbeats 400000 in
theorem lexNeed_yes (x y : Int) (w : World) : Calls Tryd.prog 48 #[.bool true, .int .i64 x, .int .i64 y] w fun r w' => r = .returned (.tuple #[]) ∧ w = w' := by
  go_enter Tryd.func48, Tryd.ntmps48
  go_wp2_with fail
  go_end0
  exact ⟨rfl, rfl⟩
set_option maxHeartbeats 400000 in
theorem lexNeed_no (x y : Int) (w : World) : Calls Tryd.prog 48 #[.bool false, .int .i64 x, .int .i64 y] w fun r w' => r = .panicked [{ v := faultV x y, recovered := false }] ∧ w = w' := by
  go_enter Tryd.func48, Tryd.ntmps48
  go_wp2_with fail
  simp [bodyPost]
theorem assert_nilL (W : World) : (Instr.typeAssert .nilIface 20 68 true).run Tryd.prog W = .ok (.tuple #[.agg #[.int .i64 0, .int .i64 0], .bool false]) W := by kernel_rfl
theorem assert_hitL (x y : Int) (W : World) : (Instr.typeAssert (faultV x y) 20 68 true).run Tryd.prog W = .ok (.tuple #[.agg #[.int .i64 x, .int .i64 y], .bool true]) W := by kernel_rfl
set_option maxHeartbeats 1000000 in
set_option maxRecDepth 100000 in
theorem pieces_idle (a1 a2 a3 : Addr) (w : World) :
    CallsD Tryd.prog 45 #[.pointer (some a1), .pointer (some a2), .pointer (some a3)] .returning w fun e u' w' => e = .returned (.tuple #[]) ∧ u' = .returning ∧ Below w.heap.size w w' := by
  refine callsD_of_wpS Tryd.func45 rfl fun c₀ cs hu => ?_
  apply wpS_seq
  apply wpS_region
  simp [wpOpsS, go_sem, recoverD, hu, Tryd.ntmps45, Exit.thenS, assert_nilL, Array.replicate]
  apply wpS_seq
  apply wpS_region
  simp [wpOpsS, go_sem, Exit.thenS]
  refine wpS_cond (t := false) (by simp [Act.eval]) ?_
  simp only [Bool.false_eq_true, if_false]
  refine wpS_of_wp (wp_skip ?_)
  cases c₀
  simp_all [bodyPostS, results, Tryd.results45]
  exact (Below.refl _ _).alloc (Nat.le_refl _) _
set_option maxHeartbeats 1000000 in
set_option maxRecDepth 100000 in
theorem pieces_catch (r1 r2 r3 B : Nat) (o1 o2 o3 : Value) (x y : Int) (w : World) (h1 : Blk w r1 38 #[o1]) (h2 : Blk w r2 3 #[o2]) (h3 : Blk w r3 27 #[o3]) (n12 : r1 ≠ r2) (n13 : r1 ≠ r3) (n23 : r2 ≠ r3) (hB1 : B ≤ r1) (hB2 : B ≤ r2) (hB3 : B ≤ r3) :
    CallsD Tryd.prog 45 #[.pointer (some ⟨r1, 0, none⟩), .pointer (some ⟨r2, 0, none⟩), .pointer (some ⟨r3, 0, none⟩)] (.panicking [{ v := faultV x y, recovered := false }]) w fun e u' w' => e = .returned (.tuple #[]) ∧ u' = .panicking [{ v := faultV x y, recovered := true }] ∧ Below B w w' ∧ Blk w' r1 38 #[.slice none 0 0] ∧ Blk w' r2 3 #[.int .i64 x] ∧ Blk w' r3 27 #[.int .i64 y] := by
  have l1 := h1.lt; have l2 := h2.lt; have l3 := h3.lt
  have c1 := h1.cell 0; have c2 := h2.cell 0; have c3 := h3.cell 0
  have f1 := h1.frozen 0; have f2 := h2.frozen 0; have f3 := h3.frozen 0
  simp at c1 c2 c3
  have H1 := h1.alloc (.cells #[.int .i64 x, .int .i64 y] 68)
  have H2 := h2.alloc (.cells #[.int .i64 x, .int .i64 y] 68)
  have H3 := h3.alloc (.cells #[.int .i64 x, .int .i64 y] 68)
  have HF := Blk.new w 68 #[.int .i64 x, .int .i64 y]
  have HB : Below B w (w.alloc (.cells #[.int .i64 x, .int .i64 y] 68)) := (Below.refl _ _).alloc (by omega) _
  refine callsD_of_wpS Tryd.func45 rfl fun c₀ cs hu => ?_
  apply wpS_seq
  apply wpS_region
  simp [wpOpsS, go_sem, recoverD, hu, Tryd.ntmps45, Exit.thenS, assert_hitL, Array.replicate]
  apply wpS_seq
  apply wpS_region
  simp [wpOpsS, go_sem, Exit.thenS]
  refine wpS_cond (t := true) (by simp [Act.eval]) ?_
  simp only [if_true]
  refine wpS_of_wp ?_
  have lF := HF.lt
  have hd1 : r1 ≠ w.heap.size := by omega
  have hd2 : r2 ≠ w.heap.size := by omega
  have hd3 : r3 ≠ w.heap.size := by omega
  generalize hr : w.heap.size = rf at HF hd1 hd2 hd3 ⊢
  clear h1 h2 h3 c1 c2 c3 f1 f2 f3 l1 l2 l3
  generalize w.alloc (.cells #[.int .i64 x, .int .i64 y] 68) = W at H1 H2 H3 HF HB lF ⊢
  have l1 := H1.lt; have l2 := H2.lt; have l3 := H3.lt
  have c1 := H1.cell 0; have c2 := H2.cell 0; have c3 := H3.cell 0; have c4 := HF.cell 0; have c5 := HF.cell 1
  have f1 := H1.frozen 0; have f2 := H2.frozen 0; have f3 := H3.frozen 0
  simp at c1 c2 c3 c4 c5
  go_region
  have K1 := (((H1.set_ 0 (.slice none 0 0)).far (p := ⟨r2, 0, none⟩) n12 (.int .i64 x)).far (p := ⟨r3, 0, none⟩) n13 (.int .i64 y)).drew
  have K2 := (((H2.far (p := ⟨r1, 0, none⟩) (Ne.symm n12) (.slice none 0 0)).set_ 0 (.int .i64 x)).far (p := ⟨r3, 0, none⟩) n23 (.int .i64 y)).drew
  have K3 := (((H3.far (p := ⟨r1, 0, none⟩) (Ne.symm n13) (.slice none 0 0)).far (p := ⟨r2, 0, none⟩) (Ne.symm n23) (.int .i64 x)).set_ 0 (.int .i64 y)).drew
  have KB : Below B w ((((W.setCell ⟨r1, 0, none⟩ (.slice none 0 0)).setCell ⟨r2, 0, none⟩ (.int .i64 x)).setCell ⟨r3, 0, none⟩ (.int .i64 y)).drew) := (((HB.setCell (p := ⟨r1, 0, none⟩) hB1 _).setCell (p := ⟨r2, 0, none⟩) hB2 _).setCell (p := ⟨r3, 0, none⟩) hB3 _).drew
  simp at K1 K2 K3
  simp [bodyPostS, results, Tryd.results45]
  exact ⟨KB, K1, K2, K3⟩
end Go.Proofs.YtdnmgpidfjkiaaaDoor
