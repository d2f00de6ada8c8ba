/-
  urlparts.Join: parts as a text.
-/
import Derived.Test.YtbcbbeenkndgcaaSplit
import Derived.Test.YtbcbbeenkndgcaaBuildT
namespace Go.Proofs.Ytbcbbeenkndgcaa
open Go.RowKit
set_option linter.unusedVariables false
set_option linter.unusedSimpArgs false

theorem btUrl : BT 51 := ⟨by kernel_rfl, by decide⟩
theorem Spare.trans' {b : Nat} {a c d : World} (h : Spare b a c) (k : Spare b c d) : Spare b a d := h.trans k
theorem Spare.refl (b : Nat) (w : World) : Spare b w w := fun k cs T hk _ _ => hk
set_option maxHeartbeats 1000000 in
set_option maxRecDepth 100000 in
theorem part_any (B b : Nat) (l : List UInt8) (is : Bool) (ahead s behind : List UInt8) (w : World) (h : IsBT 51 B b l w) (hlen : l.length + ahead.length + s.length + behind.length ≤ 140737488355328) (hBw : B ≤ w.heap.size) :
    Calls Try.prog 23 #[.pointer (some ⟨b, 0, none⟩), .bool is, .string ⟨ahead.toArray⟩, .string ⟨s.toArray⟩, .string ⟨behind.toArray⟩] w
      fun e w' => e = .returned (.tuple #[]) ∧ IsBT 51 B b (l ++ partB is ahead s behind) w' ∧ Below B w w' ∧ Spare b w w' := by
  cases is with
  | false =>
    have h' : IsBT 51 B b (l ++ partB false ahead s behind) w := by simpa [partB] using h
    have H := hide h'
    clear h h'
    go_enter Try.func23, Try.ntmps23
    go_wp2_with fail
    go_end0
    exact ⟨rfl, H.out, Below.refl _ _, Spare.refl _ _⟩
  | true =>
    have H := hide h
    clear h
    go_enter Try.func23, Try.ntmps23
    go_wp2_with fail
    refine (btStr btUrl B b l ahead _ H.out (by omega) hBw).mono ?_
    rintro e w1 ⟨⟨v1, rfl⟩, h1, hb1, hs1⟩
    have z1 := hb1.size
    have H1 := hide h1
    clear h1
    go_wp2_with fail
    refine (btStr btUrl B b (l ++ ahead) s _ H1.out (by simp; omega) (by omega)).mono ?_
    rintro e w2 ⟨⟨v2, rfl⟩, h2, hb2, hs2⟩
    have z2 := hb2.size
    have H2 := hide h2
    clear h2
    go_wp2_with fail
    refine (btStr btUrl B b (l ++ ahead ++ s) behind _ H2.out (by simp; omega) (by omega)).mono ?_
    rintro e w3 ⟨⟨v3, rfl⟩, h3, hb3, hs3⟩
    have H3 := hide (show IsBT 51 B b (l ++ partB true ahead s behind) w3 by simpa [partB] using h3)
    clear h3
    go_wp2_with fail
    go_end0
    exact ⟨rfl, H3.out, (hb1.trans hb2).trans hb3, (hs1.trans hs2).trans hs3⟩
set_option maxHeartbeats 2000000 in
set_option maxRecDepth 100000 in
theorem joinU_any (u : UrlV) (w : World) (hu : u.size + 5 ≤ 140737488355328) :
    Calls Try.prog 12 #[.agg u.cells] w fun e w' => e = .returned (.string ⟨(joinB u).toArray⟩) ∧ Below w.heap.size w w' := by
  obtain ⟨sc, ho, pa, qu, fr, hs, hh, hq, hf⟩ := u
  simp only [UrlV.size] at hu
  show Calls Try.prog 12 #[.agg #[.string ⟨sc.toArray⟩, .string ⟨ho.toArray⟩, .string ⟨pa.toArray⟩, .string ⟨qu.toArray⟩, .string ⟨fr.toArray⟩, .bool hs, .bool hh, .bool hq, .bool hf]] w _
  have HJ := hide (show joinB ⟨sc, ho, pa, qu, fr, hs, hh, hq, hf⟩ = partB hs [] sc [58] ++ partB hh [47, 47] ho [] ++ partB true [] pa [] ++ partB hq [63] qu [] ++ partB hf [35] fr [] from rfl)
  have hl : ∀ (b : Bool) (x y z : List UInt8), (partB b x y z).length ≤ x.length + y.length + z.length := by
    intro b x y z; cases b <;> simp [partB] <;> omega
  have n1 := hl hs [] sc [58]; have n2 := hl hh [47, 47] ho []; have n3 := hl true [] pa []; have n4 := hl hq [63] qu []
  simp only [List.length_cons, List.length_nil] at n1 n2 n3 n4
  clear hl
  obtain ⟨W0, hW0⟩ : ∃ W0, ((w.alloc (.cells #[.string ⟨sc.toArray⟩, .string ⟨ho.toArray⟩, .string ⟨pa.toArray⟩, .string ⟨qu.toArray⟩, .string ⟨fr.toArray⟩, .bool hs, .bool hh, .bool hq, .bool hf] 23)).alloc (.cells #[.pointer none, .slice none 0 0] 51)) = W0 := ⟨_, rfl⟩
  have hU0 : Blk W0 w.heap.size 23 #[.string ⟨sc.toArray⟩, .string ⟨ho.toArray⟩, .string ⟨pa.toArray⟩, .string ⟨qu.toArray⟩, .string ⟨fr.toArray⟩, .bool hs, .bool hh, .bool hq, .bool hf] := by rw [← hW0]; exact (Blk.new _ _ _).alloc _
  have hI0 : IsBT 51 w.heap.size (w.heap.size + 1) [] W0 := by
    rw [← hW0]
    have := isBT_new 51 (w.alloc (.cells #[.string ⟨sc.toArray⟩, .string ⟨ho.toArray⟩, .string ⟨pa.toArray⟩, .string ⟨qu.toArray⟩, .string ⟨fr.toArray⟩, .bool hs, .bool hh, .bool hq, .bool hf] 23)) w.heap.size (by simp)
    simpa using this
  have hB0 : Below w.heap.size w W0 := by rw [← hW0]; exact ((Below.refl _ _).alloc (Nat.le_refl _) _).alloc (by simp) _
  have z0 := hB0.size
  obtain ⟨d0, d1, d2, d3, d4, d5, d6, d7, d8⟩ := hU0.nine
  go_enter Try.func12, Try.ntmps12
  go_wp2_with fail
  clear hW0 d0 d1 d2 d3 d4 d5 d6 d7 d8
  refine (part_any w.heap.size (w.heap.size + 1) [] hs [] sc [58] _ hI0 (by simp only [List.length_append, List.length_cons, List.length_nil]; omega) z0).mono ?_
  rintro e w1 ⟨rfl, hI1, hb1, hs1⟩
  have hB1 := hB0.trans hb1
  have z1 := hB1.size
  have hU1 := hs1.blk hU0 (by decide) (by omega)
  clear hI0 hb1 hs1 hU0 hB0
  obtain ⟨d0, d1, d2, d3, d4, d5, d6, d7, d8⟩ := hU1.nine
  go_wp2_with fail
  clear d0 d1 d2 d3 d4 d5 d6 d7 d8
  refine (part_any w.heap.size (w.heap.size + 1) ([] ++ partB hs [] sc [58]) hh [47, 47] ho [] _ hI1 (by simp only [List.length_append, List.length_cons, List.length_nil]; omega) z1).mono ?_
  rintro e w2 ⟨rfl, hI2, hb2, hs2⟩
  have hB2 := hB1.trans hb2
  have z2 := hB2.size
  have hU2 := hs2.blk hU1 (by decide) (by omega)
  clear hI1 hb2 hs2 hU1 hB1
  obtain ⟨d0, d1, d2, d3, d4, d5, d6, d7, d8⟩ := hU2.nine
  go_wp2_with fail
  clear d0 d1 d2 d3 d4 d5 d6 d7 d8
  refine (part_any w.heap.size (w.heap.size + 1) (([] ++ partB hs [] sc [58]) ++ partB hh [47, 47] ho []) true [] pa [] _ hI2 (by simp only [List.length_append, List.length_cons, List.length_nil]; omega) z2).mono ?_
  rintro e w3 ⟨rfl, hI3, hb3, hs3⟩
  have hB3 := hB2.trans hb3
  have z3 := hB3.size
  have hU3 := hs3.blk hU2 (by decide) (by omega)
  clear hI2 hb3 hs3 hU2 hB2
  obtain ⟨d0, d1, d2, d3, d4, d5, d6, d7, d8⟩ := hU3.nine
  go_wp2_with fail
  clear d0 d1 d2 d3 d4 d5 d6 d7 d8
  refine (part_any w.heap.size (w.heap.size + 1) ((([] ++ partB hs [] sc [58]) ++ partB hh [47, 47] ho []) ++ partB true [] pa []) hq [63] qu [] _ hI3 (by simp only [List.length_append, List.length_cons, List.length_nil]; omega) z3).mono ?_
  rintro e w4 ⟨rfl, hI4, hb4, hs4⟩
  have hB4 := hB3.trans hb4
  have z4 := hB4.size
  have hU4 := hs4.blk hU3 (by decide) (by omega)
  clear hI3 hb4 hs4 hU3 hB3
  obtain ⟨d0, d1, d2, d3, d4, d5, d6, d7, d8⟩ := hU4.nine
  go_wp2_with fail
  clear d0 d1 d2 d3 d4 d5 d6 d7 d8
  refine (part_any w.heap.size (w.heap.size + 1) (((([] ++ partB hs [] sc [58]) ++ partB hh [47, 47] ho []) ++ partB true [] pa []) ++ partB hq [63] qu []) hf [35] fr [] _ hI4 (by simp only [List.length_append, List.length_cons, List.length_nil]; omega) z4).mono ?_
  rintro e w5 ⟨rfl, hI5, hb5, hs5⟩
  have hB5 := hB4.trans hb5
  have z5 := hB5.size
  clear hI4 hb5 hs5 hU4 hB4
  go_wp2_with fail
  refine (btString w.heap.size (w.heap.size + 1) _ _ hI5 z5).mono ?_
  rintro e w6 ⟨rfl, hb6⟩
  have hB6 := hB5.trans hb6
  clear hI5 hb6 hB5
  go_wp2_with fail
  go_ret
  exact ⟨by rw [HJ.out]; simp, hB6⟩
end Go.Proofs.Ytbcbbeenkndgcaa
