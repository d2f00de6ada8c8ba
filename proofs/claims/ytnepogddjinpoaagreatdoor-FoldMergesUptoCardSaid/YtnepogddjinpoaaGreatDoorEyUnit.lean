/-
  A unit, copied into a variable of its own: three operations as one step.
-/
import Derived.Test.YtnepogddjinpoaaGreatDoorOwnNode
import Derived.Deep.MidRow
import Derived.Great.Walk
namespace Go.Proofs.YtnepogddjinpoaaGreatDoor
open Go.RowKit
set_option linter.unusedVariables false
set_option linter.unusedSimpArgs false

theorem setCells_chg {S : List Nat} {a : World} (b : Nat) (hb : a.heap.size ≤ b) : ∀ (vs : List Value) (o : Nat) (w : World), Chg S a w → Chg S a (w.setCells b o vs) := by
  intro vs
  induction vs with
  | nil => exact fun o w h => h
  | cons v r ih => exact fun o w h => ih (o + 1) _ (h.set_ _ _ (.inr hb))
theorem unit_info : (Tryz.prog.info? 59).map (fun i => (i.zero, i.size, i.bytes)) = some (some (.agg #[.string ⟨#[]⟩, .int .i64 0, .string ⟨#[]⟩, .string ⟨#[]⟩, .int .u8 0, .string ⟨#[]⟩, .string ⟨#[]⟩, .int .i64 0, .string ⟨#[]⟩, .int .i64 0, .string ⟨#[]⟩, .string ⟨#[]⟩, .int .u8 0, .string ⟨#[]⟩, .string ⟨#[]⟩, .int .i64 0, .string ⟨#[]⟩, .slice none 0 0]), 18, 248) := by kernel_rfl
theorem unit_row : ∃ d, Tryz.prog.underlying 59 = some d ∧ d.isRow = true := by
  have h : (Tryz.prog.underlying 59).map TypeDesc.isRow = some true := by kernel_rfl
  cases hq : Tryz.prog.underlying 59 with
  | none => rw [hq] at h; cases h
  | some d => rw [hq] at h; injection h with h; exact ⟨d, rfl, h⟩
theorem unit_size : (Tryz.prog.info? 59).map (·.size) = some 18 := by kernel_rfl
abbrev unitZ : Array Value := #[.string ⟨#[]⟩, .int .i64 0, .string ⟨#[]⟩, .string ⟨#[]⟩, .int .u8 0, .string ⟨#[]⟩, .string ⟨#[]⟩, .int .i64 0, .string ⟨#[]⟩, .int .i64 0, .string ⟨#[]⟩, .string ⟨#[]⟩, .int .u8 0, .string ⟨#[]⟩, .string ⟨#[]⟩, .int .i64 0, .string ⟨#[]⟩, .slice none 0 0]
theorem unit_alloc {o : Oper} (ho : o.op = .alloc 59) (a : Act) (w : World) : (execOp a.eval o).run Tryz.prog w = .ok (.value (.pointer (some ⟨w.heap.size, 0, none⟩))) (w.alloc (.cells unitZ 59)) := by
  unfold execOp
  rw [ho]
  simp [go_sem]
theorem wpList_unit {ops : Array Oper} {rest : List Oper} {o1 o2 o3 : Oper} {a : Act} {w : World} {Q : Exit → Act → World → Prop} (t0 t1 t2 : Tmp)
    (n1 : o1.guard = none) (n2 : o2.guard = none) (n3 : o3.guard = none) (p1 : o1.op = .load 59 (.tmp t0)) (p2 : o2.op = .alloc 59) (p3 : o3.op = .store 59 (.tmp t2) (.tmp t1)) (q1 : o1.dst = some t1) (q2 : o2.dst = some t2) (q3 : o3.dst = none)
    (b o : Nat) (hx : a.tmps[t0]? = some (.pointer (some ⟨b, o, none⟩))) (cs : List Value) (hc : w.rangeAt b o cs) (hl : cs.length = 18) (h1 : ∀ v ∈ cs, v.oneCell' = true) (ht : t1 ≠ t2) (hs1 : t1 < a.tmps.size) (hs2 : t2 < a.tmps.size)
    (h : ∀ W, Chg [] w W → W.rangeAt w.heap.size 0 cs → w.heap.size < W.heap.size → wpList Tryz.prog ops Q rest ((a.put (some t1) (.agg cs.toArray)).put (some t2) (.pointer (some ⟨w.heap.size, 0, none⟩))) W) : wpList Tryz.prog ops Q (o1 :: o2 :: o3 :: rest) a w := by
  obtain ⟨d, hd, hr⟩ := unit_row
  refine wpList_load_mid n1 _ _ p1 b o (by simp [Act.eval, hx]) cs d hc hd hr (by rw [unit_size, hl]) ?_
  rw [q1]
  refine Go.Great.wpList_runTo n2 _ q2 _ _ (unit_alloc p2 _ _) ?_
  have htr : (w.alloc (.cells unitZ 59)).there w.heap.size 0 cs.length := by
    intro j hj
    have hB : Blk (w.alloc (.cells unitZ 59)) w.heap.size 59 unitZ := Blk.new w _ _
    refine ⟨?_, ?_⟩
    · rw [Nat.zero_add, hB.cell j]
      rw [hl] at hj
      rw [Array.getElem?_eq_getElem (by exact hj)]
      rfl
    · rw [Nat.zero_add]; exact hB.frozen j
  refine wpList_store_mid n3 _ _ _ p3 w.heap.size 0 cs.toArray ?_ ?_ (by simpa using htr) (by rw [unit_size]; simp [hl]) (all_oneCell_toArray h1) ?_
  · simp [Act.eval, Act.put, hs2]
  · simp [Act.eval, Act.put, hs1, hs2, ht, Ne.symm ht]
  · rw [q3]
    refine h _ ?_ ?_ ?_
    · exact setCells_chg w.heap.size (Nat.le_refl _) _ 0 _ ((Chg.refl [] w).alloc _)
    · exact World.rangeAt_setCells_same _ _ _ _ htr
    · exact World.block_lt_of_cell? _ _ (World.rangeAt_setCells_same _ _ _ _ htr 0 _ (List.getElem?_eq_getElem (by omega)))
end Go.Proofs.YtnepogddjinpoaaGreatDoor
