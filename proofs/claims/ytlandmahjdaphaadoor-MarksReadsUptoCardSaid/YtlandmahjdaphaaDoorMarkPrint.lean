/-
  marks: all, Print.
-/
import Derived.Test.YtlandmahjdaphaaDoorQTail
import Derived.Test.YtlandmahjdaphaaDoorStV
import Derived.Test.YtlandmahjdaphaaDoorShelf
import Derived.Deep.RegionWith
namespace Go.Proofs.YtlandmahjdaphaaDoor
open Go.RowKit
set_option linter.unusedVariables false
set_option linter.unusedSimpArgs false

set_option maxHeartbeats 8000000 in
set_option maxRecDepth 100000 in
theorem all_gen (k d pa : Int) (x1 x2 x4 x5 x7 y0 y1 y2 y3 y4 y5 y6 y7 : ByteArray) (w : World) (hd0 : 0 ≤ d) (hd1 : d ≤ 255)
    (c0 : ∀ W, Below w.heap.size w W → Calls Tryd.prog 59 #[.int .i64 k] W fun e w' => e = .returned (.string y0) ∧ Below W.heap.size W w')
    (c1 : ∀ W, Below w.heap.size w W → Calls Tryd.prog 26 #[.string x1] W fun e w' => e = .returned (.string y1) ∧ Below W.heap.size W w')
    (c2 : ∀ W, Below w.heap.size w W → Calls Tryd.prog 26 #[.string x2] W fun e w' => e = .returned (.string y2) ∧ Below W.heap.size W w')
    (c3 : ∀ W, Below w.heap.size w W → Calls Tryd.prog 59 #[.int .i64 d] W fun e w' => e = .returned (.string y3) ∧ Below W.heap.size W w')
    (c4 : ∀ W, Below w.heap.size w W → Calls Tryd.prog 26 #[.string x4] W fun e w' => e = .returned (.string y4) ∧ Below W.heap.size W w')
    (c5 : ∀ W, Below w.heap.size w W → Calls Tryd.prog 26 #[.string x5] W fun e w' => e = .returned (.string y5) ∧ Below W.heap.size W w')
    (c6 : ∀ W, Below w.heap.size w W → Calls Tryd.prog 59 #[.int .i64 pa] W fun e w' => e = .returned (.string y6) ∧ Below W.heap.size W w')
    (c7 : ∀ W, Below w.heap.size w W → Calls Tryd.prog 26 #[.string x7] W fun e w' => e = .returned (.string y7) ∧ Below W.heap.size W w')
    : Calls Tryd.prog 29 #[.agg #[.int .i64 k, .string x1, .string x2, .int .u8 d, .string x4, .string x5, .int .i64 pa, .string x7]] w fun e w' => ∃ r, e = .returned (.slice (some ⟨r, 0, none⟩) 8 8) ∧ Blk w' r 9 #[.string y0, .string y1, .string y2, .string y3, .string y4, .string y5, .string y6, .string y7] ∧ Below w.heap.size w w' := by
  have hwr : IntKind.i64.wrap d = d := by rw [IntKind.wrap_i64]; omega
  have hK := Blk.new w 29 #[.int .i64 k, .string x1, .string x2, .int .u8 d, .string x4, .string x5, .int .i64 pa, .string x7]
  have hB := (Below.refl w.heap.size w).alloc (Nat.le_refl _) (.cells #[.int .i64 k, .string x1, .string x2, .int .u8 d, .string x4, .string x5, .int .i64 pa, .string x7] 29)
  have c0 := hide c0
  have c1 := hide c1
  have c2 := hide c2
  have c3 := hide c3
  have c4 := hide c4
  have c5 := hide c5
  have c6 := hide c6
  have c7 := hide c7
  go_enter Tryd.func29, Tryd.ntmps29
  go_wp2_with fail
  generalize w.alloc (.cells #[.int .i64 k, .string x1, .string x2, .int .u8 d, .string x4, .string x5, .int .i64 pa, .string x7] 29) = W at hK hB ⊢
  have zb := hK.lt
  obtain ⟨k0, k1, k2, k3, k4, k5, k6, k7⟩ := hK.eight
  refine wp_region_tail_below (W := W) 25 (by kernel_rfl) (by kernel_rfl) (Below.refl _ _) ?_
  simp only [List.take, List.drop]
  repeat (first
    | go_big_quiet_skip
    | (apply wpQuiet_one (by rfl)
       · intro w' hw'
         have hc := (bcell hw').1
         go_simp
         first
           | done
           | (go_at_call_of 59 (Value.int Go.IntKind.i64 k); exact Calls.below_of hw' (c0.out _ (hB.trans (hw'.mono hB.size))))
           | (go_at_call_of 26 (Value.string x1); exact Calls.below_of hw' (c1.out _ (hB.trans (hw'.mono hB.size))))
           | (go_at_call_of 26 (Value.string x2); exact Calls.below_of hw' (c2.out _ (hB.trans (hw'.mono hB.size))))
           | (go_at_call_of 59 (Value.int Go.IntKind.i64 d); exact Calls.below_of hw' (c3.out _ (hB.trans (hw'.mono hB.size))))
           | (go_at_call_of 26 (Value.string x4); exact Calls.below_of hw' (c4.out _ (hB.trans (hw'.mono hB.size))))
           | (go_at_call_of 26 (Value.string x5); exact Calls.below_of hw' (c5.out _ (hB.trans (hw'.mono hB.size))))
           | (go_at_call_of 59 (Value.int Go.IntKind.i64 pa); exact Calls.below_of hw' (c6.out _ (hB.trans (hw'.mono hB.size))))
           | (go_at_call_of 26 (Value.string x7); exact Calls.below_of hw' (c7.out _ (hB.trans (hw'.mono hB.size))))
           | rfl
       · go_simp
         rfl))
  refine wpQuiet_nil ?_
  intro w' hw'
  have hB2 := hB.trans (hw'.mono hB.size)
  clear hK k0 k1 k2 k3 k4 k5 k6 k7
  go_wp2_with fail
  go_ret
  exact ⟨_, rfl, Blk.new _ _ _, hB2.alloc hB2.size _⟩
set_option maxHeartbeats 2000000 in
set_option maxRecDepth 100000 in
theorem printS_gen (k d pa : Int) (x1 x2 x4 x5 x7 y0 y1 y2 y3 y4 y5 y6 y7 : ByteArray) (w : World) (hd0 : 0 ≤ d) (hd1 : d ≤ 255)
    (c0 : ∀ W, Below w.heap.size w W → Calls Tryd.prog 59 #[.int .i64 k] W fun e w' => e = .returned (.string y0) ∧ Below W.heap.size W w')
    (c1 : ∀ W, Below w.heap.size w W → Calls Tryd.prog 26 #[.string x1] W fun e w' => e = .returned (.string y1) ∧ Below W.heap.size W w')
    (c2 : ∀ W, Below w.heap.size w W → Calls Tryd.prog 26 #[.string x2] W fun e w' => e = .returned (.string y2) ∧ Below W.heap.size W w')
    (c3 : ∀ W, Below w.heap.size w W → Calls Tryd.prog 59 #[.int .i64 d] W fun e w' => e = .returned (.string y3) ∧ Below W.heap.size W w')
    (c4 : ∀ W, Below w.heap.size w W → Calls Tryd.prog 26 #[.string x4] W fun e w' => e = .returned (.string y4) ∧ Below W.heap.size W w')
    (c5 : ∀ W, Below w.heap.size w W → Calls Tryd.prog 26 #[.string x5] W fun e w' => e = .returned (.string y5) ∧ Below W.heap.size W w')
    (c6 : ∀ W, Below w.heap.size w W → Calls Tryd.prog 59 #[.int .i64 pa] W fun e w' => e = .returned (.string y6) ∧ Below W.heap.size W w')
    (c7 : ∀ W, Below w.heap.size w W → Calls Tryd.prog 26 #[.string x7] W fun e w' => e = .returned (.string y7) ∧ Below W.heap.size W w')
    (hlen : (Lib.join ([y0, y1, y2, y3, y4, y5, y6, y7].map (·.data.toList)) [124]).length ≤ 140737488355328) :
    Calls Tryd.prog 15 #[.agg #[.int .i64 k, .string x1, .string x2, .int .u8 d, .string x4, .string x5, .int .i64 pa, .string x7]] w fun e w' => e = .returned (.string ⟨(Lib.join ([y0, y1, y2, y3, y4, y5, y6, y7].map (·.data.toList)) [124]).toArray⟩) ∧ Below w.heap.size w w' := by
  have hB := (Below.refl w.heap.size w).alloc (Nat.le_refl _) (.cells #[.int .i64 k, .string x1, .string x2, .int .u8 d, .string x4, .string x5, .int .i64 pa, .string x7] 29)
  have cA := all_gen k d pa x1 x2 x4 x5 x7 y0 y1 y2 y3 y4 y5 y6 y7 (w.alloc (.cells #[.int .i64 k, .string x1, .string x2, .int .u8 d, .string x4, .string x5, .int .i64 pa, .string x7] 29)) hd0 hd1
    (fun W hW => c0 W (hB.trans (hW.mono hB.size)))
    (fun W hW => c1 W (hB.trans (hW.mono hB.size)))
    (fun W hW => c2 W (hB.trans (hW.mono hB.size)))
    (fun W hW => c3 W (hB.trans (hW.mono hB.size)))
    (fun W hW => c4 W (hB.trans (hW.mono hB.size)))
    (fun W hW => c5 W (hB.trans (hW.mono hB.size)))
    (fun W hW => c6 W (hB.trans (hW.mono hB.size)))
    (fun W hW => c7 W (hB.trans (hW.mono hB.size)))
  generalize hJ : (Lib.join ([y0, y1, y2, y3, y4, y5, y6, y7].map (·.data.toList)) [124]) = J at hlen ⊢
  have HJ := hide hJ
  clear hJ c0 c1 c2 c3 c4 c5 c6 c7
  have cA := hide cA
  go_enter Tryd.func15, Tryd.ntmps15
  go_wp2_with fail
  refine (cA.out).mono ?_
  rintro e w1 ⟨r, rfl, hr, hb1⟩
  have hB1 := hB.trans (hb1.mono hB.size)
  have cJ := Tryd.strings_Join r 0 8 [y0, y1, y2, y3, y4, y5, y6, y7] ⟨#[124]⟩ w1 (fun j x hx => by
    rw [Nat.zero_add, hr.cell j]
    have h8 : j < 8 := by simpa using (List.getElem?_eq_some_iff.1 hx).1
    have hj : j = 0 ∨ j = 1 ∨ j = 2 ∨ j = 3 ∨ j = 4 ∨ j = 5 ∨ j = 6 ∨ j = 7 := by omega
    rcases hj with rfl | rfl | rfl | rfl | rfl | rfl | rfl | rfl <;> (simp at hx; subst hx; rfl)) hr.lt (by simp) (by simp) (by
    show (Lib.join ([y0, y1, y2, y3, y4, y5, y6, y7].map (·.data.toList)) [124]).length ≤ _
    rw [HJ.out]; exact hlen)
  have hj2 : Lib.join ([y0, y1, y2, y3, y4, y5, y6, y7].map (·.data.toList)) (ByteArray.mk #[124]).data.toList = J := HJ.out
  rw [hj2] at cJ
  have cJ := hide cJ
  clear hj2
  go_wp2_with fail
  refine (cJ.out).mono ?_
  rintro e w2 ⟨rfl, hb2⟩
  go_wp2_with fail
  go_ret
  exact ⟨rfl, hB1.trans (hb2.mono hB1.size)⟩
end Go.Proofs.YtlandmahjdaphaaDoor
