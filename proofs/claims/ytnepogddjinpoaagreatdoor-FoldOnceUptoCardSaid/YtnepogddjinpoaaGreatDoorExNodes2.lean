/-
  The page's example a{{"b"}}c: its nodes: the parser's walk at deep 0.
-/
import Derived.Test.YtnepogddjinpoaaGreatDoorP12
import Derived.Test.YtnepogddjinpoaaGreatDoorM1
namespace Go.Proofs.YtnepogddjinpoaaGreatDoor
open Go.RowKit
set_option linter.unusedVariables false
set_option linter.unusedSimpArgs false

/-- The pipeline's blocks lie from C up to D. -/
structure ExP (w : World) (C D : Nat) (v : Value) : Prop where
  some_ : ∃ g c g1, v = .slice (some ⟨g, 0, none⟩) 1 c ∧ 1 ≤ c ∧ C ≤ g ∧ C ≤ g1 ∧ g < D ∧ g1 < D ∧ AtB w g [.string ⟨#[]⟩, .slice (some ⟨g1, 0, none⟩) 1 1] ∧ AtB w g1 exArg
theorem ExP.of {w : World} {C : Nat} {v : Value} (h : ExPipe w C v) : ExP w C w.heap.size v := by
  obtain ⟨g, c0, g1, h1, h2, h3, h4, h5, h6⟩ := h.some_
  exact ⟨g, c0, g1, h1, h2, h3, h4, h5.lt, h6.lt, h5, h6⟩
theorem ExP.pipe {w : World} {B C D : Nat} {v : Value} (h : ExP w C D v) (hB : B ≤ C) : ExPipe w B v := by
  obtain ⟨g, c0, g1, h1, h2, h3, h4, _, _, h5, h6⟩ := h.some_
  exact ⟨g, c0, g1, h1, h2, by omega, by omega, h5, h6⟩
theorem ExP.chg {S : List Nat} {w w' : World} {C D : Nat} {v : Value} (h : ExP w C D v) (c : Chg S w w') (hS : ∀ x ∈ S, x < C ∨ D ≤ x) : ExP w' C D v := by
  obtain ⟨g, c0, g1, h1, h2, h3, h4, k1, k2, h5, h6⟩ := h.some_
  have k : ∀ b, b < w.heap.size → C ≤ b → b < D → w'.heap[b]? = w.heap[b]? := fun b hb hc hd => c.block b hb fun hm => by have := hS b hm; omega
  exact ⟨g, c0, g1, h1, h2, h3, h4, k1, k2, ⟨Nat.lt_of_lt_of_le h5.lt c.size, fun i v hv => (World.cell?_of_block (k g h5.lt h3 k1)).trans (h5.cell i v hv)⟩, ⟨Nat.lt_of_lt_of_le h6.lt c.size, fun i v hv => (World.cell?_of_block (k g1 h6.lt h4 k2)).trans (h6.cell i v hv)⟩⟩
theorem AtB.of_ownG {w : World} {base n size g c : Nat} {e : TypeId} {xs : List Value} (h : w.ownsRow base e size (.slice (some ⟨g, 0, none⟩) n c) n xs) (hn : n ≠ 0) : n ≤ c ∧ base ≤ g ∧ AtB w g xs := by
  obtain ⟨g', c', hv, h1, h2, h3⟩ := AtB.of_own h hn
  injection hv with e1 _ e2
  injection e1 with e1
  injection e1 with e1
  subst e1; subst e2
  exact ⟨h1, h2, h3⟩
theorem NS.setR {w : World} {b g : Nat} {v2 v3 v4 v5 : Value} {wi : World} {L : Value} {n : Int} {out : Value} {k : Nat} {xs : List Value} (h : NS w b g v2 v3 v4 v5 wi L n out k xs) (i : Nat) (u : Value) (hu : ([.slice none 0 0, .string ⟨#[]⟩, .int .i64 0] : List Value).set i u = [.slice none 0 0, .string ⟨#[]⟩, .int .i64 0]) : NS w b g v2 v3 v4 v5 (wi.setCell ⟨w.heap.size, i, none⟩ u) L n out k xs :=
  { blt := h.blt, glt := h.glt, gb := h.gb, blk := h.blk.far (p := ⟨w.heap.size, i, none⟩) (by have := h.blt; show b ≠ w.heap.size; omega) u, res := Blk.set_eq h.res hu,
    items := h.items.far (p := ⟨w.heap.size, i, none⟩) (by have := h.glt; show g ≠ w.heap.size; omega) u,
    gro := { os := h.gro.os, tape := h.gro.tape, output := h.gro.output, size := by have := h.gro.size; simpa using this, block := fun j e1 e2 => (Below.heap_setCell wi ⟨w.heap.size, i, none⟩ u j (by show j ≠ w.heap.size; omega)).trans (h.gro.block j e1 e2) },
    own := own_setE h.own (p := ⟨w.heap.size, i, none⟩) (by show w.heap.size < _; omega) u }
theorem set9_chg {S : List Nat} {a w : World} {b : Nat} (h : Chg S a w) (hB : b ∈ S ∨ a.heap.size ≤ b) (v0 v1 v2 v3 v4 v5 v6 v7 v8 : Value) : Chg S a (set9 w b v0 v1 v2 v3 v4 v5 v6 v7 v8) :=
  (((((((((h.set_ ⟨b, 0, none⟩ v0 hB).set_ ⟨b, 1, none⟩ v1 hB).set_ ⟨b, 2, none⟩ v2 hB).set_ ⟨b, 3, none⟩ v3 hB).set_ ⟨b, 4, none⟩ v4 hB).set_ ⟨b, 5, none⟩ v5 hB).set_ ⟨b, 6, none⟩ v6 hB).set_ ⟨b, 7, none⟩ v7 hB).set_ ⟨b, 8, none⟩ v8 hB)
set_option maxHeartbeats 8000000 in
set_option maxRecDepth 100000 in
theorem nodes_ex (w : World) (b g c : Nat) (v2 v3 v4 v5 : Value) (K : Blk w b 104 #[.slice (some ⟨g, 0, none⟩) 3 c, .int .i64 0, v2, v3, v4, v5]) (h : AtB w g exItems) (hc : 3 ≤ c) (hbg : g ≠ b) :
    Calls Tryz.prog 55 #[.pointer (some ⟨b, 0, none⟩), .int .i64 0] w fun e w' => ∃ v vp L, e = .returned (.tuple #[v, .agg #[.slice none 0 0, .string ⟨#[]⟩, .int .i64 0], .bool true]) ∧ ExPipe w' w.heap.size vp ∧ NS w b g v2 v3 v4 v5 w' L 3 v 3 (exNodes vp) := by
  obtain ⟨i0, hi, hz0, hz1, hz2⟩ := info_parts info_node
  have c0 := K.cell 0; have c1 := K.cell 1
  have z0 := K.frozen 0
  simp at c0 c1
  have a0 := h.cell 0 _ rfl; have a1 := h.cell 1 _ rfl; have a2 := h.cell 2 _ rfl
  have lb := K.lt; have lg := h.lt
  have hs0 : (w.setCell ⟨b, 0, none⟩ (.slice (some ⟨g, 3, none⟩) 2 (c - 1))).heap.size = w.heap.size := by simp
  have N1 : NS w b g v2 v3 v4 v5 (((w.setCell ⟨b, 0, none⟩ (.slice (some ⟨g, 3, none⟩) 2 (c - 1))).alloc (.cells #[.slice none 0 0, .string ⟨#[]⟩, .int .i64 0] 107)).alloc (.cells #[.int .i64 1, .string ⟨#[97]⟩, .int .i64 0] 132)) (.slice (some ⟨g, 3, none⟩) 2 (c - 1)) 0 (.slice none 0 0) 0 [] := by
    refine NS.alloc ⟨K.lt, h.lt, hbg, ?_, ?_, ?_, ?_, World.ownsRow_nil _ _ _ _⟩ (.cells #[.int .i64 1, .string ⟨#[97]⟩, .int .i64 0] 132)
    · have := (K.set_ 0 (.slice (some ⟨g, 3, none⟩) 2 (c - 1))).alloc (.cells #[.slice none 0 0, .string ⟨#[]⟩, .int .i64 0] 107); simpa using this
    · have := Blk.new (w.setCell ⟨b, 0, none⟩ (.slice (some ⟨g, 3, none⟩) 2 (c - 1))) 107 #[.slice none 0 0, .string ⟨#[]⟩, .int .i64 0]; rw [hs0] at this; exact this
    · exact (h.far (p := ⟨b, 0, none⟩) hbg (.slice (some ⟨g, 3, none⟩) 2 (c - 1))).alloc (.cells #[.slice none 0 0, .string ⟨#[]⟩, .int .i64 0] 107)
    · exact grown_below (by simp) (fun j hj hne => (Below.heap_alloc (w.setCell ⟨b, 0, none⟩ (.slice (some ⟨g, 3, none⟩) 2 (c - 1))) (.cells #[.slice none 0 0, .string ⟨#[]⟩, .int .i64 0] 107) j (by rw [hs0]; exact hj)).trans (Below.heap_setCell w ⟨b, 0, none⟩ (.slice (some ⟨g, 3, none⟩) 2 (c - 1)) j (by intro e; exact hne (by rw [e])))) rfl rfl rfl
  have KX := Blk.new ((w.setCell ⟨b, 0, none⟩ (.slice (some ⟨g, 3, none⟩) 2 (c - 1))).alloc (.cells #[.slice none 0 0, .string ⟨#[]⟩, .int .i64 0] 107)) 132 #[.int .i64 1, .string ⟨#[97]⟩, .int .i64 0]
  have hs1 : ((w.setCell ⟨b, 0, none⟩ (.slice (some ⟨g, 3, none⟩) 2 (c - 1))).alloc (.cells #[.slice none 0 0, .string ⟨#[]⟩, .int .i64 0] 107)).heap.size = w.heap.size + 1 := by simp
  rw [hs1] at KX
  go_enter Tryz.func55, Tryz.ntmps55
  go_wp2_with fail
  refine wp_loop_rounds 4 ?_
  rw [rounds_succ]
  go_wp2_with fail
  refine (count_ex _ b 0 0 _ v2 v3 v4 v5 (by decide) (by decide) N1.blk).mono ?_
  rintro e w2 ⟨rfl, hw2⟩
  have N2 : NS w b g v2 v3 v4 v5 w2 (.slice (some ⟨g, 3, none⟩) 2 (c - 1)) 1 (.slice none 0 0) 0 [] := by rw [hw2]; exact N1.setN 1
  have KX2 : Blk w2 (w.heap.size + 1) 132 #[.int .i64 1, .string ⟨#[97]⟩, .int .i64 0] := by rw [hw2]; exact KX.far (p := ⟨b, 1, none⟩) (by show w.heap.size + 1 ≠ b; omega) _
  have x0 := KX2.cell 0; have x1 := KX2.cell 1; have x2 := KX2.cell 2
  simp at x0 x1 x2
  have lx := KX2.lt
  have s2 : w.heap.size + 2 ≤ w2.heap.size := by rw [hw2]; simp
  clear hw2 N1 c0 c1 z0 a0 a1 a2 hs0 hs1 KX
  go_wp2_with (at_builtin; refine wpList_append_own _ rfl _ _ 41 rfl (w.heap.size + 1) 61 i0 (.agg #[.int .i64 0, .string ⟨#[]⟩, .string ⟨#[]⟩, .slice none 0 0, .slice none 0 0, .slice none 0 0, .int .i64 0, .int .i64 0, .int .i64 0]) 9 136 Tryz.underlying41 hi hz0 hz1 hz2 rfl (by decide) _ 0 _ rfl (N2.own.alloc _) ⟨w2.heap.size, 0, none⟩ 1 1 [.int .i64 1, .string ⟨#[97]⟩, .string ⟨#[]⟩, .slice none 0 0, .slice none 0 0, .slice none 0 0, .int .i64 0, .int .i64 0, .int .i64 0] rfl rfl (by intro j u hj; match j, hj with | 0, hj => (simp at hj; subst hj; simp [Addr.add]) | 1, hj => (simp at hj; subst hj; simp [Addr.add]) | 2, hj => (simp at hj; subst hj; simp [Addr.add]) | 3, hj => (simp at hj; subst hj; simp [Addr.add]) | 4, hj => (simp at hj; subst hj; simp [Addr.add]) | 5, hj => (simp at hj; subst hj; simp [Addr.add]) | 6, hj => (simp at hj; subst hj; simp [Addr.add]) | 7, hj => (simp at hj; subst hj; simp [Addr.add]) | 8, hj => (simp at hj; subst hj; simp [Addr.add])) (by intro u hu; simp at hu; rcases hu with rfl | rfl | rfl | rfl | rfl | rfl | rfl | rfl | rfl <;> rfl) (by unfold maxLen; omega) (by omega) (by simp; omega) ?_; intro v3_ w3 hown3 hgrow3 _)
  have N3 := (N2.alloc (.cells #[.int .i64 1, .string ⟨#[97]⟩, .string ⟨#[]⟩, .slice none 0 0, .slice none 0 0, .slice none 0 0, .int .i64 0, .int .i64 0, .int .i64 0] 61)).append hown3 hgrow3
  have s3 : w.heap.size + 2 ≤ w3.heap.size := by have := hgrow3.size; simp at this; omega
  obtain ⟨A3, c3, rfl⟩ := own_sliceE hown3
  clear N2 hgrow3 hown3 KX2 x0 x1 x2 lx
  have c0 := N3.blk.cell 0; have c1 := N3.blk.cell 1
  have z0 := N3.blk.frozen 0
  simp at c0 c1
  have a0 := N3.items.cell 3 _ rfl; have a1 := N3.items.cell 4 _ rfl; have a2 := N3.items.cell 5 _ rfl
  have lb3 := N3.blk.lt; have lg3 := N3.items.lt
  rw [rounds_succ]
  go_wp2_with fail
  have N4 := (N3.setL (.slice (some ⟨g, 6, none⟩) 1 (c - 1 - 1))).alloc (.cells #[.int .i64 2, .string ⟨#[34, 98, 34]⟩, .int .i64 1] 132)
  have e4 : ((w3.setCell ⟨b, 0, none⟩ (.slice (some ⟨g, 6, none⟩) 1 (c - 1 - 1))).alloc (.cells #[.int .i64 2, .string ⟨#[34, 98, 34]⟩, .int .i64 1] 132)).heap.size = w3.heap.size + 1 := by simp
  refine (words_p _ b).mono ?_
  rintro e w5 ⟨pv, rfl, ⟨gw, cw, rfl, hcw, hgw, hAw⟩, hb5⟩
  have N5 := N4.below hb5
  have s5 := hb5.size
  rw [e4] at s5 hgw
  have hownE := hide N3.own
  clear N3 N4 hb5 e4 c0 c1 z0 a0 a1 a2 lb3 lg3
  have q0 := hAw.cell 0 _ rfl; have q1 := hAw.cell 1 _ rfl; have q2 := hAw.cell 2 _ rfl
  have lgw := hAw.lt
  have hbl := N5.blt
  go_wp2_with fail
  have N6 := (N5.alloc (.cells #[.slice (some ⟨gw, 0, none⟩) 1 cw, .string ⟨#[]⟩, .int .i64 1] 107)).alloc (.cells #[.int .i64 0, .string ⟨#[]⟩, .string ⟨#[]⟩, .slice none 0 0, .slice none 0 0, .slice none 0 0, .int .i64 0, .int .i64 0, .int .i64 0] 61)
  have hA6 := (hAw.alloc (.cells #[.slice (some ⟨gw, 0, none⟩) 1 cw, .string ⟨#[]⟩, .int .i64 1] 107)).alloc (.cells #[.int .i64 0, .string ⟨#[]⟩, .string ⟨#[]⟩, .slice none 0 0, .slice none 0 0, .slice none 0 0, .int .i64 0, .int .i64 0, .int .i64 0] 61)
  have KB6 := Blk.new (w5.alloc (.cells #[.slice (some ⟨gw, 0, none⟩) 1 cw, .string ⟨#[]⟩, .int .i64 1] 107)) 61 #[.int .i64 0, .string ⟨#[]⟩, .string ⟨#[]⟩, .slice none 0 0, .slice none 0 0, .slice none 0 0, .int .i64 0, .int .i64 0, .int .i64 0]
  have e5 : (w5.alloc (.cells #[.slice (some ⟨gw, 0, none⟩) 1 cw, .string ⟨#[]⟩, .int .i64 1] 107)).heap.size = w5.heap.size + 1 := by simp
  have e6 : ((w5.alloc (.cells #[.slice (some ⟨gw, 0, none⟩) 1 cw, .string ⟨#[]⟩, .int .i64 1] 107)).alloc (.cells #[.int .i64 0, .string ⟨#[]⟩, .string ⟨#[]⟩, .slice none 0 0, .slice none 0 0, .slice none 0 0, .int .i64 0, .int .i64 0, .int .i64 0] 61)).heap.size = w5.heap.size + 2 := by simp
  rw [e5] at KB6
  refine (single_p _ b gw cw 1 _ v2 v3 v4 v5 (by decide) (by decide) N6.blk hA6 hcw (by omega)).mono ?_
  rintro e w7 ⟨vp, rfl, hE, hb7⟩
  obtain ⟨gp, cpp, gq, hvp, hpp⟩ := hE.some_
  subst hvp
  clear hpp
  have e7 : (((w5.alloc (.cells #[.slice (some ⟨gw, 0, none⟩) 1 cw, .string ⟨#[]⟩, .int .i64 1] 107)).alloc (.cells #[.int .i64 0, .string ⟨#[]⟩, .string ⟨#[]⟩, .slice none 0 0, .slice none 0 0, .slice none 0 0, .int .i64 0, .int .i64 0, .int .i64 0] 61)).setCell ⟨b, 1, none⟩ (.int .i64 (1 + 1))).heap.size = ((w5.alloc (.cells #[.slice (some ⟨gw, 0, none⟩) 1 cw, .string ⟨#[]⟩, .int .i64 1] 107)).alloc (.cells #[.int .i64 0, .string ⟨#[]⟩, .string ⟨#[]⟩, .slice none 0 0, .slice none 0 0, .slice none 0 0, .int .i64 0, .int .i64 0, .int .i64 0] 61)).heap.size := by simp
  have N7 := (N6.setN (1 + 1)).below (by rw [e7]; exact hb7)
  have KB7 := (KB6.far (p := ⟨b, 1, none⟩) (by show w5.heap.size + 1 ≠ b; omega) (.int .i64 (1 + 1))).below hb7 (by rw [e6]; omega)
  have s7 := hb7.size
  rw [e7, e6] at s7
  rw [e6] at hE
  clear N5 N6 hA6 KB6 hb7 e5 e6 e7 q0 q1 q2 lgw hAw
  have n0 := KB7.cell 0; have n1 := KB7.cell 1; have n2 := KB7.cell 2; have n3 := KB7.cell 3; have n4 := KB7.cell 4; have n5 := KB7.cell 5; have n6 := KB7.cell 6; have n7 := KB7.cell 7; have n8 := KB7.cell 8
  have y0 := KB7.frozen 0; have y1 := KB7.frozen 1; have y2 := KB7.frozen 2; have y3 := KB7.frozen 3; have y4 := KB7.frozen 4; have y5 := KB7.frozen 5; have y6 := KB7.frozen 6; have y7 := KB7.frozen 7; have y8 := KB7.frozen 8
  simp at n0 n1 n2 n3 n4 n5 n6 n7 n8
  have lK := KB7.lt
  simp only [exNode]
  have hq : (Value.slice A3 (0 + 1) c3).ownBlock ≠ some (w5.heap.size + 1) := fun e => by have := (hownE.out.lt _ e).2; omega
  have HN8 := hide (N7.set9 (q := w5.heap.size + 1) (by omega) (by omega) (by omega) hq (.int .i64 2) (.string ⟨#[]⟩) (.string ⟨#[]⟩) (Value.slice (some ⟨gp, 0, none⟩) 1 cpp) (.slice none 0 0) (.slice none 0 0) (.int .i64 1) (.int .i64 0) (.int .i64 0))
  have HKE : Hid (∀ (j : Nat) (u : Value), ([.int .i64 2, .string ⟨#[]⟩, .string ⟨#[]⟩, (Value.slice (some ⟨gp, 0, none⟩) 1 cpp), .slice none 0 0, .slice none 0 0, .int .i64 1, .int .i64 0, .int .i64 0] : List Value)[j]? = some u → ((set9 w7 (w5.heap.size + 1) (.int .i64 2) (.string ⟨#[]⟩) (.string ⟨#[]⟩) (Value.slice (some ⟨gp, 0, none⟩) 1 cpp) (.slice none 0 0) (.slice none 0 0) (.int .i64 1) (.int .i64 0) (.int .i64 0)).alloc (.cells #[.int .i64 2, .string ⟨#[]⟩, .string ⟨#[]⟩, (Value.slice (some ⟨gp, 0, none⟩) 1 cpp), .slice none 0 0, .slice none 0 0, .int .i64 1, .int .i64 0, .int .i64 0] 61)).cell? ((⟨w7.heap.size, 0, none⟩ : Addr).add j) = some u) := by
    intro j u hj
    have s8 : (set9 w7 (w5.heap.size + 1) (.int .i64 2) (.string ⟨#[]⟩) (.string ⟨#[]⟩) (Value.slice (some ⟨gp, 0, none⟩) 1 cpp) (.slice none 0 0) (.slice none 0 0) (.int .i64 1) (.int .i64 0) (.int .i64 0)).heap.size = w7.heap.size := by simp [set9]
    have KE := Blk.new (set9 w7 (w5.heap.size + 1) (.int .i64 2) (.string ⟨#[]⟩) (.string ⟨#[]⟩) (Value.slice (some ⟨gp, 0, none⟩) 1 cpp) (.slice none 0 0) (.slice none 0 0) (.int .i64 1) (.int .i64 0) (.int .i64 0)) 61 #[.int .i64 2, .string ⟨#[]⟩, .string ⟨#[]⟩, (Value.slice (some ⟨gp, 0, none⟩) 1 cpp), .slice none 0 0, .slice none 0 0, .int .i64 1, .int .i64 0, .int .i64 0]
    rw [s8] at KE
    rw [zaddE]
    exact (AtB.of_blk (cs := [.int .i64 2, .string ⟨#[]⟩, .string ⟨#[]⟩, (Value.slice (some ⟨gp, 0, none⟩) 1 cpp), .slice none 0 0, .slice none 0 0, .int .i64 1, .int .i64 0, .int .i64 0]) KE).cell j u hj
  clear hq N7
  go_wp2_with (at_builtin; refine wpList_append_lies _ rfl _ _ 41 rfl (w.heap.size + 1) 61 i0 (.agg #[.int .i64 0, .string ⟨#[]⟩, .string ⟨#[]⟩, .slice none 0 0, .slice none 0 0, .slice none 0 0, .int .i64 0, .int .i64 0, .int .i64 0]) 9 136 Tryz.underlying41 hi hz0 hz1 hz2 rfl (by decide) _ 1 _ rfl (HN8.out.own.alloc _) ⟨w7.heap.size, 0, none⟩ 1 1 [.int .i64 2, .string ⟨#[]⟩, .string ⟨#[]⟩, (Value.slice (some ⟨gp, 0, none⟩) 1 cpp), .slice none 0 0, .slice none 0 0, .int .i64 1, .int .i64 0, .int .i64 0] rfl rfl (by intro j u hj; exact HKE.out j u hj) (by intro u hu; simp at hu; rcases hu with rfl | rfl | rfl | rfl | rfl | rfl | rfl | rfl | rfl <;> rfl) (by omega) (by unfold maxLen; omega) (by omega) (by simp; omega) _ rfl ?_; intro g9 c9 w9 hown9 hgrow9 hat9 _)
  have N9 := (HN8.out.alloc (.cells #[.int .i64 2, .string ⟨#[]⟩, .string ⟨#[]⟩, (Value.slice (some ⟨gp, 0, none⟩) 1 cpp), .slice none 0 0, .slice none 0 0, .int .i64 1, .int .i64 0, .int .i64 0] 61)).append hown9 hgrow9
  have s9 := hgrow9.size
  simp at s9
  obtain ⟨hc9, hg9, hAt9⟩ := AtB.of_ownG hown9 (by decide)
  have hfar9 : g9 < w5.heap.size + 2 ∨ w7.heap.size ≤ g9 := by
    rcases hat9 with h9 | h9
    · have := (hownE.out.lt g9 h9).2; omega
    · have : (set9 w7 (w5.heap.size + 1) (.int .i64 2) (.string ⟨#[]⟩) (.string ⟨#[]⟩) (Value.slice (some ⟨gp, 0, none⟩) 1 cpp) (.slice none 0 0) (.slice none 0 0) (.int .i64 1) (.int .i64 0) (.int .i64 0)).heap.size = w7.heap.size := by simp [set9]
      first | omega | (simp at h9; omega)
  clear hat9
  have hE9 : ExP w9 (w5.heap.size + 2) w7.heap.size (Value.slice (some ⟨gp, 0, none⟩) 1 cpp) := by
    refine (ExP.of hE).chg (S := (w5.heap.size + 1) :: (Value.slice A3 (0 + 1) c3).ownBlock.toList) (((set9_chg (Chg.refl _ w7) (.inl (by simp)) _ _ _ _ _ _ _ _ _).alloc _).grown hgrow9 (fun k hk => .inl (List.mem_cons_of_mem _ (by rw [show (Value.slice A3 (0 + 1) c3).ownBlock = some k from hk]; simp)))) ?_
    intro x hx
    rcases List.mem_cons.1 hx with rfl | hx
    · omega
    · have := (hownE.out.lt x (by simpa using hx)).2; omega
  clear HN8 HKE hgrow9 hown9
  have c0 := N9.blk.cell 0; have c1 := N9.blk.cell 1
  have z0 := N9.blk.frozen 0
  simp at c0 c1
  have a0 := N9.items.cell 6 _ rfl; have a1 := N9.items.cell 7 _ rfl; have a2 := N9.items.cell 8 _ rfl
  have o9 := hAt9.cell 9 _ rfl
  have hbl9 := N9.blt
  have hgb9 : g9 ≠ b := by omega
  have hgb9' : b ≠ g9 := by omega
  have lb9 := N9.blk.lt; have lg9 := N9.items.lt; have lo9 := hAt9.lt
  have hLx : Hid (w.heap.size < w9.heap.size) := N9.res.lt
  have HN9 := hide N9
  have HE9 := hide hE9
  clear N9 hE9 hE hownE KB7 n0 n1 n2 n3 n4 n5 n6 n7 n8 y0 y1 y2 y3 y4 y5 y6 y7 y8 lK
  rw [rounds_succ]
  go_wp2_with fail
  all_goals
    refine name_world fun W hW => ?_
    obtain ⟨A', c', hW'⟩ : ∃ A' c', W = (w9.setCell ⟨b, 0, none⟩ (.slice A' 0 c')).alloc (.cells #[.int .i64 1, .string ⟨#[99]⟩, .int .i64 8] 132) := ⟨_, _, hW.symm⟩
    clear hW
    have N10 := (HN9.out.setL (.slice A' 0 c')).alloc (.cells #[.int .i64 1, .string ⟨#[99]⟩, .int .i64 8] 132)
    rw [← hW'] at N10
    have KX : Blk W w9.heap.size 132 #[.int .i64 1, .string ⟨#[99]⟩, .int .i64 8] := by rw [hW']; (repeat' (first | with_reducible exact Blk.new_ (by first | rfl | (simp; done) | (simp; omega)) | with_reducible refine Blk.alloc_ ?_ | with_reducible refine Blk.drew ?_ | with_reducible refine Blk.drewN ?_ _ | with_reducible refine Blk.far_ ?_ (by first | (simp; done) | (simp; omega) | omega) | with_reducible apply Blk.set_eq | rfl))
    have hE10 : ExP W (w5.heap.size + 2) w7.heap.size (Value.slice (some ⟨gp, 0, none⟩) 1 cpp) := by
      rw [hW']; exact HE9.out.chg (S := [b]) (by (repeat' (first | with_reducible exact Chg.refl _ _ | with_reducible refine Chg.alloc ?_ _ | with_reducible refine Chg.drew ?_ | with_reducible refine Chg.drewN ?_ _ | with_reducible refine Chg.set_ ?_ _ _ (by first | (simp; done) | (simp; omega) | omega)))) (by intro x hx; simp at hx; omega)
    have s10 : w9.heap.size + 1 ≤ W.heap.size := by rw [hW']; simp
    clear hW' c0 c1 z0 a0 a1 a2 o9 lb9 lg9 lo9
    refine (count_ex W b (1 + 1) _ _ v2 v3 v4 v5 (by decide) (by decide) N10.blk).mono ?_
    rintro e w11 ⟨rfl, hw11⟩
    have N11 := N10.setN (1 + 1 + 1)
    rw [← hw11] at N11
    have KX1 : Blk w11 w9.heap.size 132 #[.int .i64 1, .string ⟨#[99]⟩, .int .i64 8] := by rw [hw11]; (repeat' (first | with_reducible exact KX | with_reducible exact Blk.new_ (by first | rfl | (simp; done) | (simp; omega)) | with_reducible refine Blk.alloc_ ?_ | with_reducible refine Blk.drew ?_ | with_reducible refine Blk.drewN ?_ _ | with_reducible refine Blk.far_ ?_ (by first | (simp; done) | (simp; omega) | omega) | with_reducible apply Blk.set_eq | rfl))
    have hE11 : ExP w11 (w5.heap.size + 2) w7.heap.size (Value.slice (some ⟨gp, 0, none⟩) 1 cpp) := by
      rw [hw11]; exact hE10.chg (S := [b]) (by (repeat' (first | with_reducible exact Chg.refl _ _ | with_reducible refine Chg.alloc ?_ _ | with_reducible refine Chg.drew ?_ | with_reducible refine Chg.drewN ?_ _ | with_reducible refine Chg.set_ ?_ _ _ (by first | (simp; done) | (simp; omega) | omega)))) (by intro x hx; simp at hx; omega)
    have x0 := KX1.cell 0; have x1 := KX1.cell 1; have x2 := KX1.cell 2; simp at x0 x1 x2
    have lx := KX1.lt
    have s11 : w9.heap.size + 1 ≤ w11.heap.size := by rw [hw11]; simpa using s10
    have HE11 := hide hE11
    clear hw11 N10 KX hE10 hE11
    go_wp2_with (at_builtin; refine wpList_append_own _ rfl _ _ 41 rfl (w.heap.size + 1) 61 i0 (.agg #[.int .i64 0, .string ⟨#[]⟩, .string ⟨#[]⟩, .slice none 0 0, .slice none 0 0, .slice none 0 0, .int .i64 0, .int .i64 0, .int .i64 0]) 9 136 Tryz.underlying41 hi hz0 hz1 hz2 rfl (by decide) _ 2 _ rfl (N11.own.alloc _) ⟨w11.heap.size, 0, none⟩ 1 1 [.int .i64 1, .string ⟨#[99]⟩, .string ⟨#[]⟩, .slice none 0 0, .slice none 0 0, .slice none 0 0, .int .i64 8, .int .i64 0, .int .i64 0] rfl rfl (by intro j u hj; match j, hj with | 0, hj => (simp at hj; subst hj; simp [Addr.add]) | 1, hj => (simp at hj; subst hj; simp [Addr.add]) | 2, hj => (simp at hj; subst hj; simp [Addr.add]) | 3, hj => (simp at hj; subst hj; simp [Addr.add]) | 4, hj => (simp at hj; subst hj; simp [Addr.add]) | 5, hj => (simp at hj; subst hj; simp [Addr.add]) | 6, hj => (simp at hj; subst hj; simp [Addr.add]) | 7, hj => (simp at hj; subst hj; simp [Addr.add]) | 8, hj => (simp at hj; subst hj; simp [Addr.add])) (by intro u hu; simp at hu; rcases hu with rfl | rfl | rfl | rfl | rfl | rfl | rfl | rfl | rfl <;> rfl) (by unfold maxLen; omega) (by omega) (by simp; omega) ?_; intro v12 w12 hown12 hgrow12 _)
    have N12 := (N11.alloc (.cells #[.int .i64 1, .string ⟨#[99]⟩, .string ⟨#[]⟩, .slice none 0 0, .slice none 0 0, .slice none 0 0, .int .i64 8, .int .i64 0, .int .i64 0] 61)).append hown12 hgrow12
    have HE13 : Hid (ExPipe (((w12.setCell ⟨w.heap.size, 0, none⟩ (.slice none 0 0)).setCell ⟨w.heap.size, 1, none⟩ (.string ⟨#[]⟩)).setCell ⟨w.heap.size, 2, none⟩ (.int .i64 0)) w.heap.size (Value.slice (some ⟨gp, 0, none⟩) 1 cpp)) := by
      refine ExP.pipe (C := w5.heap.size + 2) ((HE11.out.chg (S := [g9]) (w' := w12) ?_ ?_).chg (S := [w.heap.size]) (by (repeat' (first | with_reducible exact Chg.refl _ _ | with_reducible refine Chg.alloc ?_ _ | with_reducible refine Chg.drew ?_ | with_reducible refine Chg.drewN ?_ _ | with_reducible refine Chg.set_ ?_ _ _ (by first | (simp; done) | (simp; omega) | omega)))) (by intro x hx; simp at hx; omega)) (by omega)
      · exact (by (repeat' (first | with_reducible exact Chg.refl _ _ | with_reducible refine Chg.alloc ?_ _ | with_reducible refine Chg.drew ?_ | with_reducible refine Chg.drewN ?_ _ | with_reducible refine Chg.set_ ?_ _ _ (by first | (simp; done) | (simp; omega) | omega))) : Chg [g9] w11 (w11.alloc _)).grown hgrow12 (fun k hk => .inl (by injection hk with hk; subst hk; simp))
      · intro x hx; simp at hx; subst hx; exact hfar9
    obtain ⟨A12, c12, rfl⟩ := own_sliceE hown12
    have HN12 := hide N12
    have c0 := N12.blk.cell 0
    simp at c0
    have lb12 := N12.blk.lt
    have r0 := N12.res.cell 0; have r1 := N12.res.cell 1; have r2 := N12.res.cell 2; simp at r0 r1 r2
    have z0 := N12.res.frozen 0; have z1 := N12.res.frozen 1; have z2 := N12.res.frozen 2
    have lr12 := N12.res.lt
    clear N12 N11 hgrow12 hown12 KX1 x0 x1 x2
    rw [rounds_succ]
    go_wp2_with fail
    have HN13 := hide (((HN12.out.setR 0 (.slice none 0 0) rfl).setR 1 (.string ⟨#[]⟩) rfl).setR 2 (.int .i64 0) rfl)
    have hE13 : ExPipe (((w12.setCell ⟨w.heap.size, 0, none⟩ (.slice none 0 0)).setCell ⟨w.heap.size, 1, none⟩ (.string ⟨#[]⟩)).setCell ⟨w.heap.size, 2, none⟩ (.int .i64 0)) w.heap.size _ := HE13.out
    generalize (((w12.setCell ⟨w.heap.size, 0, none⟩ (.slice none 0 0)).setCell ⟨w.heap.size, 1, none⟩ (.string ⟨#[]⟩)).setCell ⟨w.heap.size, 2, none⟩ (.int .i64 0)) = W13 at HN13 hE13 ⊢
    clear r0 r1 r2
    have N13 := HN13.out
    have r0 := N13.res.cell 0; have r1 := N13.res.cell 1; have r2 := N13.res.cell 2; simp at r0 r1 r2
    clear N13
    simp [bodyPost, results, Tryz.results55, go_sem, r0, r1, r2]
    exact ⟨_, hE13, _, HN13.out⟩
end Go.Proofs.YtnepogddjinpoaaGreatDoor
