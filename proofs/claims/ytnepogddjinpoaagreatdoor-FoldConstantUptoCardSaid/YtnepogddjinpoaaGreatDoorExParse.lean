/-
  The page's example a{{"b"}}c: its template (muslinref20.Parse).
-/
import Derived.Test.YtnepogddjinpoaaGreatDoorExPipe
import Derived.Deep.RegionWith
import Derived.Deep.QuietTactic
import Derived.BigQuiet
namespace Go.Proofs.YtnepogddjinpoaaGreatDoor
open Go.RowKit
set_option linter.unusedVariables false
set_option linter.unusedSimpArgs false

theorem AtB.far {w : World} {g : Nat} {cs : List Value} (h : AtB w g cs) {p : Addr} (hp : g ≠ p.block) (u : Value) : AtB (w.setCell p u) g cs :=
  ⟨by have := h.lt; simpa using this, fun i v hv => (World.cell?_of_block (Below.heap_setCell w p u g hp)).trans (h.cell i v hv)⟩
theorem AtB.alloc {w : World} {g : Nat} {cs : List Value} (h : AtB w g cs) (o : Obj) : AtB (w.alloc o) g cs := h.on ((Below.refl _ _).alloc (Nat.le_refl _) o)
set_option maxHeartbeats 1000000 in
set_option maxRecDepth 100000 in
theorem count_ex (w : World) (b : Nat) (k at_ : Int) (v0 v2 v3 v4 v5 : Value) (hk : k < 1000) (hk0 : 0 ≤ k) (K : Blk w b 104 #[v0, .int .i64 k, v2, v3, v4, v5]) :
    Calls Tryz.prog 74 #[.pointer (some ⟨b, 0, none⟩), .int .i64 at_] w fun e w' => e = .returned (.bool true) ∧ w' = w.setCell ⟨b, 1, none⟩ (.int .i64 (k + 1)) := by
  have c1 := K.cell 1
  have z1 := K.frozen 1
  have lt := K.lt
  simp at c1
  have hk1 : (k == 1024) = false := by simp; omega
  go_enter Tryz.func74, Tryz.ntmps74
  go_wp2_with fail
  go_ret
  exact ⟨rfl, rfl⟩
theorem ExPipe.from_ {w : World} {B C : Nat} {v : Value} (h : ExPipe w C v) (hBC : B ≤ C) : ExPipe w B v := by
  obtain ⟨g, c, g1, h1, h2, h3, h4, h5, h6⟩ := h.some_
  exact ⟨g, c, g1, h1, h2, Nat.le_trans hBC h3, Nat.le_trans hBC h4, h5, h6⟩
theorem ExPipe.far {w : World} {C : Nat} {v : Value} (h : ExPipe w C v) {p : Addr} (hp : p.block < C) (u : Value) : ExPipe (w.setCell p u) C v := by
  obtain ⟨g, c, g1, h1, h2, h3, h4, h5, h6⟩ := h.some_
  exact ⟨g, c, g1, h1, h2, h3, h4, h5.far (by omega) u, h6.far (by omega) u⟩
/-- An action's words. -/
def PieceAt (w : World) (base : Nat) (v : Value) : Prop := ∃ g c, v = .agg #[.slice (some ⟨g, 0, none⟩) 1 c, .string ⟨#[]⟩, .int .i64 1] ∧ 1 ≤ c ∧ base ≤ g ∧ AtB w g exWords
set_option maxHeartbeats 4000000 in
set_option maxRecDepth 100000 in
theorem words_p (w : World) (b : Nat) : Calls Tryz.prog 75 #[.pointer (some ⟨b, 0, none⟩), .agg #[.int .i64 2, .string ⟨#[34, 98, 34]⟩, .int .i64 1]] w fun e w' => ∃ v, e = .returned (.tuple #[v, .bool true]) ∧ PieceAt w' w.heap.size v ∧ Below w.heap.size w w' := by
  go_enter Tryz.func75, Tryz.ntmps75
  have KI := (Blk.new w 132 #[.int .i64 2, .string ⟨#[34, 98, 34]⟩, .int .i64 1]).alloc (.cells #[.slice none 0 0, .string ⟨#[]⟩, .int .i64 0] 107)
  have KR := Blk.new (w.alloc (.cells #[.int .i64 2, .string ⟨#[34, 98, 34]⟩, .int .i64 1] 132)) 107 #[.slice none 0 0, .string ⟨#[]⟩, .int .i64 0]
  have hb0 := ((Below.refl w.heap.size w).alloc (Nat.le_refl _) (.cells #[.int .i64 2, .string ⟨#[34, 98, 34]⟩, .int .i64 1] 132)).alloc (by simp) (.cells #[.slice none 0 0, .string ⟨#[]⟩, .int .i64 0] 107)
  have hsz : (w.alloc (.cells #[.int .i64 2, .string ⟨#[34, 98, 34]⟩, .int .i64 1] 132)).heap.size = w.heap.size + 1 := by simp
  rw [hsz] at KR
  go_wp2_with fail
  refine (words_w _).mono ?_
  rintro e w1 ⟨v1, rfl, hown1, hb1⟩
  obtain ⟨g, c, rfl, hc, hg, hA⟩ := AtB.of_own hown1 (by decide)
  have KI1 := KI.below hb1 KI.lt
  have KR1 := KR.below hb1 KR.lt
  have hb2 := below_stepE hb0 hb1
  have hgw : w.heap.size + 2 ≤ g := by simpa using hg
  have a0 := hA.cell 0 _ rfl; have a1 := hA.cell 1 _ rfl; have a2 := hA.cell 2 _ rfl
  have q0 := KI1.cell 0; have q1 := KI1.cell 1; have q2 := KI1.cell 2
  have r0 := KR1.cell 0; have r1 := KR1.cell 1; have r2 := KR1.cell 2
  have z0 := KR1.frozen 0; have z1 := KR1.frozen 1; have z2 := KR1.frozen 2
  simp at q0 q1 q2 r0 r1 r2
  have li := KI1.lt; have lr := KR1.lt; have lg := hA.lt
  clear KI KR hb0 hb1 hown1 hg
  go_wp2_with fail
  have hge := hb2.size
  have K5 := (((KR1.set_ 0 (.slice (some ⟨g, 0, none⟩) 1 c)).set_ 1 (.string ⟨#[]⟩)).set_ 2 (.int .i64 1)).alloc (.cells #[.slice (some ⟨g, 0, none⟩) 1 c, .string ⟨#[]⟩, .int .i64 1] 107)
  have hb5 := (((hb2.setCell (p := ⟨w.heap.size + 1, 0, none⟩) (by simp) (.slice (some ⟨g, 0, none⟩) 1 c)).setCell (p := ⟨w.heap.size + 1, 1, none⟩) (by simp) (.string ⟨#[]⟩)).setCell (p := ⟨w.heap.size + 1, 2, none⟩) (by simp) (.int .i64 1)).alloc (by simp; omega) (.cells #[.slice (some ⟨g, 0, none⟩) 1 c, .string ⟨#[]⟩, .int .i64 1] 107)
  have hA5 := (((hA.far (p := ⟨w.heap.size + 1, 0, none⟩) (by show g ≠ w.heap.size + 1; omega) (.slice (some ⟨g, 0, none⟩) 1 c)).far (p := ⟨w.heap.size + 1, 1, none⟩) (by show g ≠ w.heap.size + 1; omega) (.string ⟨#[]⟩)).far (p := ⟨w.heap.size + 1, 2, none⟩) (by show g ≠ w.heap.size + 1; omega) (.int .i64 1)).alloc (.cells #[.slice (some ⟨g, 0, none⟩) 1 c, .string ⟨#[]⟩, .int .i64 1] 107)
  simp only [Array.setIfInBounds] at K5
  generalize (((w1.setCell ⟨w.heap.size + 1, 0, none⟩ (.slice (some ⟨g, 0, none⟩) 1 c)).setCell ⟨w.heap.size + 1, 1, none⟩ (.string ⟨#[]⟩)).setCell ⟨w.heap.size + 1, 2, none⟩ (.int .i64 1)).alloc (.cells #[.slice (some ⟨g, 0, none⟩) 1 c, .string ⟨#[]⟩, .int .i64 1] 107) = w5 at K5 hb5 hA5 ⊢
  have o0 := K5.cell 0; have o1 := K5.cell 1; have o2 := K5.cell 2
  simp at o0 o1 o2
  simp [bodyPost, results, Tryz.results75, go_sem, o0, o1, o2]
  exact ⟨⟨g, c, rfl, hc, by omega, hA5⟩, hb5⟩
set_option maxHeartbeats 4000000 in
set_option maxRecDepth 100000 in
theorem pipe_p (w : World) (b g c : Nat) (h : AtB w g exWords) (hc : 1 ≤ c) : Calls Tryz.prog 94 #[.pointer (some ⟨b, 0, none⟩), .agg #[.slice (some ⟨g, 0, none⟩) 1 c, .string ⟨#[]⟩, .int .i64 1], .int .i64 0] w fun e w' => ∃ v, e = .returned (.tuple #[v, .bool true]) ∧ ExPipe w' w.heap.size v ∧ Below w.heap.size w w' := by
  have lt := h.lt
  have hP := hide (fun (W : World) (hb : Below w.heap.size w W) => parse19_ex W g c (h.on hb) hc)
  have hb0 := (Below.refl w.heap.size w).alloc (Nat.le_refl _) (.cells #[.slice (some ⟨g, 0, none⟩) 1 c, .string ⟨#[]⟩, .int .i64 1] 107)
  go_enter Tryz.func94, Tryz.ntmps94
  go_wp2_with fail
  go_region_with (go_at_call 111; refine (hP.out _ ?_).mono ?_; exact hb0.drew; rintro e w1 ⟨v, rfl, hE, hb1⟩)
  all_goals
    go_wp2_with fail
    go_ret2
    exact ⟨_, rfl, hE.from_ (by simp), below_stepE hb0.drew hb1⟩
theorem below_both {B : Nat} {a b : World} (h : Below B a b) (p : Addr) (u : Value) : Below B (a.setCell p u) (b.setCell p u) :=
  { os := h.os, tape := h.tape, output := h.output, size := by simpa using h.size, block := fun k hk => by simp [World.setCell, Array.getElem?_modify, h.block k hk] }
def set9 (w : World) (b : Nat) (v0 v1 v2 v3 v4 v5 v6 v7 v8 : Value) : World := (((((((((w.setCell ⟨b, 0, none⟩ v0).setCell ⟨b, 1, none⟩ v1).setCell ⟨b, 2, none⟩ v2).setCell ⟨b, 3, none⟩ v3).setCell ⟨b, 4, none⟩ v4).setCell ⟨b, 5, none⟩ v5).setCell ⟨b, 6, none⟩ v6).setCell ⟨b, 7, none⟩ v7).setCell ⟨b, 8, none⟩ v8)
theorem set9_blk {w : World} {b : Nat} {t : TypeId} {u0 u1 u2 u3 u4 u5 u6 u7 u8 : Value} (h : Blk w b t #[u0, u1, u2, u3, u4, u5, u6, u7, u8]) (v0 v1 v2 v3 v4 v5 v6 v7 v8 : Value) : Blk (set9 w b v0 v1 v2 v3 v4 v5 v6 v7 v8) b t #[v0, v1, v2, v3, v4, v5, v6, v7, v8] := by
  have := (((((((((h.set_ 0 v0).set_ 1 v1).set_ 2 v2).set_ 3 v3).set_ 4 v4).set_ 5 v5).set_ 6 v6).set_ 7 v7).set_ 8 v8)
  simpa [set9] using this
theorem set9_below {B : Nat} {a w : World} {b : Nat} (h : Below B a w) (hB : B ≤ b) (v0 v1 v2 v3 v4 v5 v6 v7 v8 : Value) : Below B a (set9 w b v0 v1 v2 v3 v4 v5 v6 v7 v8) := (((((((((h.setCell (p := ⟨b, 0, none⟩) hB v0).setCell (p := ⟨b, 1, none⟩) hB v1).setCell (p := ⟨b, 2, none⟩) hB v2).setCell (p := ⟨b, 3, none⟩) hB v3).setCell (p := ⟨b, 4, none⟩) hB v4).setCell (p := ⟨b, 5, none⟩) hB v5).setCell (p := ⟨b, 6, none⟩) hB v6).setCell (p := ⟨b, 7, none⟩) hB v7).setCell (p := ⟨b, 8, none⟩) hB v8)
theorem set9_pipe {C : Nat} {w : World} {b : Nat} {v : Value} (h : ExPipe w C v) (hB : b < C) (v0 v1 v2 v3 v4 v5 v6 v7 v8 : Value) : ExPipe (set9 w b v0 v1 v2 v3 v4 v5 v6 v7 v8) C v := (((((((((h.far (p := ⟨b, 0, none⟩) hB v0).far (p := ⟨b, 1, none⟩) hB v1).far (p := ⟨b, 2, none⟩) hB v2).far (p := ⟨b, 3, none⟩) hB v3).far (p := ⟨b, 4, none⟩) hB v4).far (p := ⟨b, 5, none⟩) hB v5).far (p := ⟨b, 6, none⟩) hB v6).far (p := ⟨b, 7, none⟩) hB v7).far (p := ⟨b, 8, none⟩) hB v8)
def exNode (vp : Value) : Value := .agg #[.int .i64 2, .string ⟨#[]⟩, .string ⟨#[]⟩, vp, .slice none 0 0, .slice none 0 0, .int .i64 1, .int .i64 0, .int .i64 0]
set_option maxHeartbeats 4000000 in
set_option maxRecDepth 100000 in
theorem single_p (w : World) (b g c : Nat) (k : Int) (v0 v2 v3 v4 v5 : Value) (hk : k < 1000) (hk0 : 0 ≤ k) (K : Blk w b 104 #[v0, .int .i64 k, v2, v3, v4, v5]) (h : AtB w g exWords) (hc : 1 ≤ c) (hbg : g ≠ b) :
    Calls Tryz.prog 79 #[.pointer (some ⟨b, 0, none⟩), .agg #[.slice (some ⟨g, 0, none⟩) 1 c, .string ⟨#[]⟩, .int .i64 1]] w fun e w' => ∃ vp, e = .returned (.tuple #[exNode vp, .bool true]) ∧ ExPipe w' w.heap.size vp ∧ Below w.heap.size (w.setCell ⟨b, 1, none⟩ (.int .i64 (k + 1))) w' := by
  have hbl := K.lt
  have hgl := h.lt
  have K0 := ((K.alloc (.cells #[.slice (some ⟨g, 0, none⟩) 1 c, .string ⟨#[]⟩, .int .i64 1] 107)).alloc (.cells #[.int .i64 0, .string ⟨#[]⟩, .string ⟨#[]⟩, .slice none 0 0, .slice none 0 0, .slice none 0 0, .int .i64 0, .int .i64 0, .int .i64 0] 61)).alloc (.cells #[.int .i64 0, .string ⟨#[]⟩, .string ⟨#[]⟩, .slice none 0 0, .slice none 0 0, .slice none 0 0, .int .i64 1, .int .i64 0, .int .i64 0] 61)
  have hA0 := ((h.alloc (.cells #[.slice (some ⟨g, 0, none⟩) 1 c, .string ⟨#[]⟩, .int .i64 1] 107)).alloc (.cells #[.int .i64 0, .string ⟨#[]⟩, .string ⟨#[]⟩, .slice none 0 0, .slice none 0 0, .slice none 0 0, .int .i64 0, .int .i64 0, .int .i64 0] 61)).alloc (.cells #[.int .i64 0, .string ⟨#[]⟩, .string ⟨#[]⟩, .slice none 0 0, .slice none 0 0, .slice none 0 0, .int .i64 1, .int .i64 0, .int .i64 0] 61)
  have KP := ((Blk.new w 107 #[.slice (some ⟨g, 0, none⟩) 1 c, .string ⟨#[]⟩, .int .i64 1]).alloc (.cells #[.int .i64 0, .string ⟨#[]⟩, .string ⟨#[]⟩, .slice none 0 0, .slice none 0 0, .slice none 0 0, .int .i64 0, .int .i64 0, .int .i64 0] 61)).alloc (.cells #[.int .i64 0, .string ⟨#[]⟩, .string ⟨#[]⟩, .slice none 0 0, .slice none 0 0, .slice none 0 0, .int .i64 1, .int .i64 0, .int .i64 0] 61)
  have KR := (Blk.new (w.alloc (.cells #[.slice (some ⟨g, 0, none⟩) 1 c, .string ⟨#[]⟩, .int .i64 1] 107)) 61 #[.int .i64 0, .string ⟨#[]⟩, .string ⟨#[]⟩, .slice none 0 0, .slice none 0 0, .slice none 0 0, .int .i64 0, .int .i64 0, .int .i64 0]).alloc (.cells #[.int .i64 0, .string ⟨#[]⟩, .string ⟨#[]⟩, .slice none 0 0, .slice none 0 0, .slice none 0 0, .int .i64 1, .int .i64 0, .int .i64 0] 61)
  have KN := Blk.new ((w.alloc (.cells #[.slice (some ⟨g, 0, none⟩) 1 c, .string ⟨#[]⟩, .int .i64 1] 107)).alloc (.cells #[.int .i64 0, .string ⟨#[]⟩, .string ⟨#[]⟩, .slice none 0 0, .slice none 0 0, .slice none 0 0, .int .i64 0, .int .i64 0, .int .i64 0] 61)) 61 #[.int .i64 0, .string ⟨#[]⟩, .string ⟨#[]⟩, .slice none 0 0, .slice none 0 0, .slice none 0 0, .int .i64 1, .int .i64 0, .int .i64 0]
  have hb0 := (((Below.refl w.heap.size w).alloc (Nat.le_refl _) (.cells #[.slice (some ⟨g, 0, none⟩) 1 c, .string ⟨#[]⟩, .int .i64 1] 107)).alloc (by simp) (.cells #[.int .i64 0, .string ⟨#[]⟩, .string ⟨#[]⟩, .slice none 0 0, .slice none 0 0, .slice none 0 0, .int .i64 0, .int .i64 0, .int .i64 0] 61)).alloc (by simp; omega) (.cells #[.int .i64 0, .string ⟨#[]⟩, .string ⟨#[]⟩, .slice none 0 0, .slice none 0 0, .slice none 0 0, .int .i64 1, .int .i64 0, .int .i64 0] 61)
  have e1 : (w.alloc (.cells #[.slice (some ⟨g, 0, none⟩) 1 c, .string ⟨#[]⟩, .int .i64 1] 107)).heap.size = w.heap.size + 1 := by simp
  have e2 : ((w.alloc (.cells #[.slice (some ⟨g, 0, none⟩) 1 c, .string ⟨#[]⟩, .int .i64 1] 107)).alloc (.cells #[.int .i64 0, .string ⟨#[]⟩, .string ⟨#[]⟩, .slice none 0 0, .slice none 0 0, .slice none 0 0, .int .i64 0, .int .i64 0, .int .i64 0] 61)).heap.size = w.heap.size + 2 := by simp
  rw [e1] at KR
  rw [e2] at KN
  clear e1 e2
  have cC := hide (fun W (h : Blk W b 104 #[v0, .int .i64 k, v2, v3, v4, v5]) => count_ex W b k 1 v0 v2 v3 v4 v5 hk hk0 h)
  go_enter Tryz.func79, Tryz.ntmps79
  go_wp2_with fail
  refine (cC.out _ K0).mono ?_
  rintro e w1 ⟨rfl, hw1⟩
  have hb1 : Below w.heap.size (w.setCell ⟨b, 1, none⟩ (.int .i64 (k + 1))) w1 := by rw [hw1]; exact below_both hb0 _ _
  have KP1 : Blk w1 w.heap.size 107 #[.slice (some ⟨g, 0, none⟩) 1 c, .string ⟨#[]⟩, .int .i64 1] := by rw [hw1]; exact KP.far (by show w.heap.size ≠ b; omega) _
  have KR1 : Blk w1 (w.heap.size + 1) 61 #[.int .i64 0, .string ⟨#[]⟩, .string ⟨#[]⟩, .slice none 0 0, .slice none 0 0, .slice none 0 0, .int .i64 0, .int .i64 0, .int .i64 0] := by rw [hw1]; exact KR.far (by show w.heap.size + 1 ≠ b; omega) _
  have KN1 : Blk w1 (w.heap.size + 2) 61 #[.int .i64 0, .string ⟨#[]⟩, .string ⟨#[]⟩, .slice none 0 0, .slice none 0 0, .slice none 0 0, .int .i64 1, .int .i64 0, .int .i64 0] := by rw [hw1]; exact KN.far (by show w.heap.size + 2 ≠ b; omega) _
  have hA1 : AtB w1 g exWords := by rw [hw1]; exact hA0.far (by show g ≠ b; exact hbg) _
  have hs1 : w.heap.size + 3 ≤ w1.heap.size := by have := KN1.lt; omega
  clear hw1 K0 hA0 KP KR KN hb0
  have a0 := hA1.cell 0 _ rfl; have a1 := hA1.cell 1 _ rfl; have a2 := hA1.cell 2 _ rfl
  have p0 := KP1.cell 0; have p1 := KP1.cell 1; have p2 := KP1.cell 2
  have n0 := KN1.cell 0; have n1 := KN1.cell 1; have n2 := KN1.cell 2; have n3 := KN1.cell 3; have n4 := KN1.cell 4; have n5 := KN1.cell 5; have n6 := KN1.cell 6; have n7 := KN1.cell 7; have n8 := KN1.cell 8
  have z0 := KN1.frozen 0; have z3 := KN1.frozen 3
  simp at p0 p1 p2 n0 n1 n2 n3 n4 n5 n6 n7 n8
  have lN := KN1.lt; have lP := KP1.lt; have lg := hA1.lt
  go_wp2_with fail
  have hA2 := hA1.far (p := ⟨w.heap.size + 1 + 1, 0, none⟩) (by show g ≠ w.heap.size + 1 + 1; omega) (.int .i64 2)
  have KN2 := KN1.set_ 0 (.int .i64 2)
  have KR2 := KR1.far (p := ⟨w.heap.size + 1 + 1, 0, none⟩) (by show w.heap.size + 1 ≠ w.heap.size + 1 + 1; omega) (.int .i64 2)
  have hb2 := hb1.setCell (p := ⟨w.heap.size + 1 + 1, 0, none⟩) (by show w.heap.size ≤ w.heap.size + 1 + 1; omega) (.int .i64 2)
  simp only [Array.setIfInBounds] at KN2
  have hs2 : (w1.setCell ⟨w.heap.size + 1 + 1, 0, none⟩ (.int .i64 2)).heap.size = w1.heap.size := by simp
  refine (pipe_p _ b g c hA2 hc).mono ?_
  rintro e w3 ⟨vp, rfl, hE, hb3⟩
  obtain ⟨gp, cpp, gq, hvp, hpp⟩ := hE.some_
  subst hvp
  clear hpp
  have KN3 := KN2.below hb3 KN2.lt
  have KR3 := KR2.below hb3 KR2.lt
  have hs3 := hb3.size
  have hb4 := hb2.trans (hb3.mono (by rw [hs2]; omega))
  rw [hs2] at hE hs3
  clear hA2 KN2 KR2 hb2 hb3 n0 n1 n2 n3 n4 n5 n6 n7 n8 z0 z3 a0 a1 a2 p0 p1 p2 lN lP lg
  have n0 := KN3.cell 0; have n1 := KN3.cell 1; have n2 := KN3.cell 2; have n3 := KN3.cell 3; have n4 := KN3.cell 4; have n5 := KN3.cell 5; have n6 := KN3.cell 6; have n7 := KN3.cell 7; have n8 := KN3.cell 8
  have z3 := KN3.frozen 3
  have r0 := KR3.cell 0; have r1 := KR3.cell 1; have r2 := KR3.cell 2; have r3 := KR3.cell 3; have r4 := KR3.cell 4; have r5 := KR3.cell 5; have r6 := KR3.cell 6; have r7 := KR3.cell 7; have r8 := KR3.cell 8
  have y0 := KR3.frozen 0; have y1 := KR3.frozen 1; have y2 := KR3.frozen 2; have y3 := KR3.frozen 3; have y4 := KR3.frozen 4; have y5 := KR3.frozen 5; have y6 := KR3.frozen 6; have y7 := KR3.frozen 7; have y8 := KR3.frozen 8
  simp at n0 n1 n2 n3 n4 n5 n6 n7 n8 r0 r1 r2 r3 r4 r5 r6 r7 r8
  have lN := KN3.lt; have lR := KR3.lt
  go_wp2_with fail
  have KR5 := set9_blk (KR3.far (p := ⟨w.heap.size + 1 + 1, 3, none⟩) (by show w.heap.size + 1 ≠ w.heap.size + 1 + 1; omega) (Value.slice (some ⟨gp, 0, none⟩) 1 cpp)) (.int .i64 2) (.string ⟨#[]⟩) (.string ⟨#[]⟩) (Value.slice (some ⟨gp, 0, none⟩) 1 cpp) (.slice none 0 0) (.slice none 0 0) (.int .i64 1) (.int .i64 0) (.int .i64 0)
  have hb5 := set9_below (b := w.heap.size + 1) (hb4.setCell (p := ⟨w.heap.size + 1 + 1, 3, none⟩) (by show w.heap.size ≤ w.heap.size + 1 + 1; omega) (Value.slice (some ⟨gp, 0, none⟩) 1 cpp)) (by omega) (.int .i64 2) (.string ⟨#[]⟩) (.string ⟨#[]⟩) (Value.slice (some ⟨gp, 0, none⟩) 1 cpp) (.slice none 0 0) (.slice none 0 0) (.int .i64 1) (.int .i64 0) (.int .i64 0)
  have hE5 := set9_pipe (b := w.heap.size + 1) (hE.far (p := ⟨w.heap.size + 1 + 1, 3, none⟩) (by show w.heap.size + 1 + 1 < _; omega) (Value.slice (some ⟨gp, 0, none⟩) 1 cpp)) (by omega) (.int .i64 2) (.string ⟨#[]⟩) (.string ⟨#[]⟩) (Value.slice (some ⟨gp, 0, none⟩) 1 cpp) (.slice none 0 0) (.slice none 0 0) (.int .i64 1) (.int .i64 0) (.int .i64 0)
  have hW : ((((((((((w3.setCell ⟨w.heap.size + 1 + 1, 3, none⟩ (Value.slice (some ⟨gp, 0, none⟩) 1 cpp)).setCell ⟨w.heap.size + 1, 0, none⟩ (.int .i64 2)).setCell ⟨w.heap.size + 1, 1, none⟩ (.string ⟨#[]⟩)).setCell ⟨w.heap.size + 1, 2, none⟩ (.string ⟨#[]⟩)).setCell ⟨w.heap.size + 1, 3, none⟩ (Value.slice (some ⟨gp, 0, none⟩) 1 cpp)).setCell ⟨w.heap.size + 1, 4, none⟩ (.slice none 0 0)).setCell ⟨w.heap.size + 1, 5, none⟩ (.slice none 0 0)).setCell ⟨w.heap.size + 1, 6, none⟩ (.int .i64 1)).setCell ⟨w.heap.size + 1, 7, none⟩ (.int .i64 0)).setCell ⟨w.heap.size + 1, 8, none⟩ (.int .i64 0)) = set9 (w3.setCell ⟨w.heap.size + 1 + 1, 3, none⟩ (Value.slice (some ⟨gp, 0, none⟩) 1 cpp)) (w.heap.size + 1) (.int .i64 2) (.string ⟨#[]⟩) (.string ⟨#[]⟩) (Value.slice (some ⟨gp, 0, none⟩) 1 cpp) (.slice none 0 0) (.slice none 0 0) (.int .i64 1) (.int .i64 0) (.int .i64 0) := rfl
  rw [hW]
  clear hW
  generalize set9 (w3.setCell ⟨w.heap.size + 1 + 1, 3, none⟩ (Value.slice (some ⟨gp, 0, none⟩) 1 cpp)) (w.heap.size + 1) (.int .i64 2) (.string ⟨#[]⟩) (.string ⟨#[]⟩) (Value.slice (some ⟨gp, 0, none⟩) 1 cpp) (.slice none 0 0) (.slice none 0 0) (.int .i64 1) (.int .i64 0) (.int .i64 0) = w5 at KR5 hb5 hE5 ⊢
  have o0 := KR5.cell 0; have o1 := KR5.cell 1; have o2 := KR5.cell 2; have o3 := KR5.cell 3; have o4 := KR5.cell 4; have o5 := KR5.cell 5; have o6 := KR5.cell 6; have o7 := KR5.cell 7; have o8 := KR5.cell 8
  simp at o0 o1 o2 o3 o4 o5 o6 o7 o8
  have hfin : ExPipe w5 w.heap.size (Value.slice (some ⟨gp, 0, none⟩) 1 cpp) := hE5.from_ (by omega)
  clear hE5 hE KR5 KR3 KN3 hb4 KN1 KR1 KP1 hA1 K h
  simp [bodyPost, results, Tryz.results79, go_sem, o0, o1, o2, o3, o4, o5, o6, o7, o8]
  refine ⟨Value.slice (some ⟨gp, 0, none⟩) 1 cpp, ?_, hfin, hb5⟩
  rfl
end Go.Proofs.YtnepogddjinpoaaGreatDoor
