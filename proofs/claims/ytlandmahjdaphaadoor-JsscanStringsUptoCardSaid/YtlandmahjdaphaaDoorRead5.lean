/-
  literal.Read at "5".
-/
import Derived.Test.YtlandmahjdaphaaDoorAttr
import Derived.Test.YtlandmahjdaphaaDoorMem
import Derived.Test.YtlandmahjdaphaaDoorParse
import Derived.Test.YtlandmahjdaphaaDoorHex
import Derived.Test.YtlandmahjdaphaaDoorRefUtf
import Derived.Deep.QuietTactic
import Derived.Defers
import Derived.Recover
import Derived.Test.YtlandmahjdaphaaDoorQB
namespace Go.Proofs.YtlandmahjdaphaaDoor
open Go.RowKit
set_option linter.unusedVariables false
set_option linter.unusedSimpArgs false

abbrev five : ByteArray := ⟨#[53]⟩
/-- The reader's place set to 1; whatever is new. -/
def AtOne (b : Nat) (w w' : World) : Prop := Below w.heap.size (w.setCell ⟨b, 1, none⟩ (.int .i64 1)) w'
theorem size_set (w : World) (p : Addr) (v : Value) : (w.setCell p v).heap.size = w.heap.size := by simp
theorem below_both {b : Nat} {w w1 : World} {t : TypeId} {cs : Array Value} (hk : Blk w b t cs) (h : Below w.heap.size w w1) (v : Value) : Below w.heap.size (w.setCell ⟨b, 1, none⟩ v) (w1.setCell ⟨b, 1, none⟩ v) := by
  have hk1 := hk.below h hk.lt
  refine ⟨h.os, h.tape, h.output, by rw [size_set, size_set]; exact h.size, fun k hl => ?_⟩
  by_cases e : k = b
  · subst e
    have a1 := hk.set_ 1 v; have a2 := hk1.set_ 1 v
    unfold Blk at a1 a2
    rw [a1, a2]
  · rw [Below.heap_setCell w1 ⟨b, 1, none⟩ v k e, Below.heap_setCell w ⟨b, 1, none⟩ v k e, h.block k hl]
theorem AtOne.left {b : Nat} {w w0 w' : World} {t : TypeId} {cs : Array Value} (hk : Blk w b t cs) (h : Below w.heap.size w w0) (k : AtOne b w0 w') : AtOne b w w' :=
  (below_both hk h _).trans (Below.mono k h.size)
theorem AtOne.right {b : Nat} {w w' w2 : World} (k : AtOne b w w') (h : Below w.heap.size w' w2) : AtOne b w w2 := Below.trans k h
theorem AtOne.sizes {b : Nat} {w w' : World} (k : AtOne b w w') : w.heap.size ≤ w'.heap.size := by
  have := Below.size k
  rwa [size_set] at this
theorem AtOne.blk {b : Nat} {w w' : World} (k : AtOne b w w') {g : Nat} {t : TypeId} {cs : Array Value} (h : Blk w g t cs) (hg : g ≠ b) : Blk w' g t cs :=
  (h.far (p := ⟨b, 1, none⟩) hg _).below k h.lt
theorem AtOne.own {b : Nat} {w w' : World} (k : AtOne b w w') {t : TypeId} {u v : Value} (h : Blk w b t #[u, v]) : Blk w' b t #[u, .int .i64 1] := by
  have := (h.set_ 1 (.int .i64 1)).below k h.lt
  simpa using this
theorem AtOne.below {b B : Nat} {w w' : World} (k : AtOne b w w') (h1 : B ≤ b) (h2 : B ≤ w.heap.size) : Below B w w' :=
  ((Below.refl B w).setCell (p := ⟨b, 1, none⟩) h1 _).trans (Below.mono k h2)
theorem AtOne.set5 {b g : Nat} {w w' : World} (k : AtOne b w w') (hg : w.heap.size ≤ g) (v0 v1 v2 v3 v4 : Value) :
    AtOne b w (((((w'.setCell ⟨g, 0, none⟩ v0).setCell ⟨g, 1, none⟩ v1).setCell ⟨g, 2, none⟩ v2).setCell ⟨g, 3, none⟩ v3).setCell ⟨g, 4, none⟩ v4) :=
  ((((Below.setCell k (p := ⟨g, 0, none⟩) hg _).setCell (p := ⟨g, 1, none⟩) hg _).setCell (p := ⟨g, 2, none⟩) hg _).setCell (p := ⟨g, 3, none⟩) hg _).setCell (p := ⟨g, 4, none⟩) hg _
theorem Blk.five5 {w : World} {g : Nat} {t : TypeId} {a0 a1 a2 a3 a4 : Value} (h : Blk w g t #[a0, a1, a2, a3, a4]) (v0 v1 v2 v3 v4 : Value) :
    Blk (((((w.setCell ⟨g, 0, none⟩ v0).setCell ⟨g, 1, none⟩ v1).setCell ⟨g, 2, none⟩ v2).setCell ⟨g, 3, none⟩ v3).setCell ⟨g, 4, none⟩ v4) g t #[v0, v1, v2, v3, v4] := by
  have := ((((h.set_ 0 v0).set_ 1 v1).set_ 2 v2).set_ 3 v3).set_ 4 v4
  simpa using this
set_option maxHeartbeats 1000000 in
set_option maxRecDepth 100000 in
theorem took_no (b : Nat) (p : ByteArray) (w : World) (hk : Blk w b 91 #[.string five, .int .i64 0]) (hp : Lib.hasPrefix [53] p.data.toList = false) :
    Calls Tryd.prog 93 #[.pointer (some ⟨b, 0, none⟩), .string p] w fun e w' => e = .returned (.bool false) ∧ Below w.heap.size w w' := by
  have c0 := hk.cell 0; have c1 := hk.cell 1
  simp at c0 c1
  have cP := fun w => hasPrefix_any five p w
  rw [show five.data.toList = [53] from rfl, hp] at cP
  have cP := hide cP
  have hx : five.extract 0 1 = five := by decide
  clear hp hk
  go_enter Tryd.func93, Tryd.ntmps93
  go_wp2_with fail
  go_quiet (first | (go_at_call 31; exact Calls.quiet_of ((cP.out _).mono fun e w' h => ⟨h.1, 0, h.2.symm⟩)))
  go_wp2_with fail
  go_ret
  exact ⟨rfl, below_drewN (Below.refl _ _) _⟩
set_option maxHeartbeats 400000 in
theorem need_yes (e : Int) (w : World) : Calls Tryd.prog 64 #[.bool true, .int .i64 e] w fun r w' => r = .returned (.tuple #[]) ∧ w = w' := by
  go_enter Tryd.func64, Tryd.ntmps64
  go_wp2_with fail
  go_end0
  exact ⟨rfl, rfl⟩
theorem parse5 (w : World) : Calls Tryd.prog 24 #[.string five] w fun e w' => e = .returned (.tuple #[.int .i64 5, .int .i64 0]) ∧ Below w.heap.size w w' := by
  have h := parse_any five w (by decide)
  rw [show pParse five.data.toList = (5, 0) by decide +kernel] at h
  exact h
theorem index5 (w : World) : Calls Tryd.prog 77 #[.string ⟨#[45, 48, 49, 50, 51, 52, 53, 54, 55, 56, 57]⟩, .int .u8 53] w fun e w' => e = .returned (.int .i64 6) ∧ w = w' := by
  have h := strings_IndexByte ⟨#[45, 48, 49, 50, 51, 52, 53, 54, 55, 56, 57]⟩ 53 w
  rw [show Lib.indexByte (ByteArray.mk #[45, 48, 49, 50, 51, 52, 53, 54, 55, 56, 57]).data.toList ((53 : Int).toNat.toUInt8) = 6 by decide +kernel] at h
  exact h
set_option maxHeartbeats 2000000 in
set_option maxRecDepth 100000 in
theorem digits5 (b : Nat) (w : World) (hk : Blk w b 91 #[.string five, .int .i64 0]) :
    Calls Tryd.prog 97 #[.pointer (some ⟨b, 0, none⟩)] w fun e w' => e = .returned (.agg #[.int .i64 3, .int .i64 5, .string ⟨#[]⟩, .slice none 0 0, .slice none 0 0]) ∧ AtOne b w w' := by
  have hbl := hk.lt
  have hx : five.extract 0 1 = five := by decide
  have hne : w.heap.size ≠ b := by omega
  have hR0 := Blk.new w 57 #[.int .i64 0, .int .i64 0, .string ⟨#[]⟩, .slice none 0 0, .slice none 0 0]
  have hk0 := hk.alloc (.cells #[.int .i64 0, .int .i64 0, .string ⟨#[]⟩, .slice none 0 0, .slice none 0 0] 57)
  have hB0 := (Below.refl w.heap.size w).alloc (Nat.le_refl _) (.cells #[.int .i64 0, .int .i64 0, .string ⟨#[]⟩, .slice none 0 0, .slice none 0 0] 57)
  have hz0 : (w.alloc (.cells #[.int .i64 0, .int .i64 0, .string ⟨#[]⟩, .slice none 0 0, .slice none 0 0] 57)).heap.size = w.heap.size + 1 := by simp
  go_enter Tryd.func97, Tryd.ntmps97
  go_wp2_with fail
  refine (took_no b ⟨#[32]⟩ _ hk0 (by decide)).mono ?_
  rintro e w1 ⟨rfl, hb1⟩
  rw [hz0] at hb1
  have hk1 := hk0.below hb1 (by omega)
  have hR1 := hR0.below hb1 (by omega)
  have hB1 := hB0.trans (hb1.mono (by omega))
  have hkw := hide hk
  clear hk0 hR0 hB0 hb1 hz0 hk
  have c0 := hk1.cell 0; have c1 := hk1.cell 1
  simp at c0 c1
  go_wp2_with fail
  clear c0 c1
  go_loopg [] 1 (fun gf wr => (gf = 1 ∧ Below w.heap.size w wr ∧ Blk wr b 91 #[.string five, .int .i64 0] ∧ Blk wr w.heap.size 57 #[.int .i64 0, .int .i64 0, .string ⟨#[]⟩, .slice none 0 0, .slice none 0 0])
    ∨ (gf = 0 ∧ AtOne b w wr ∧ Blk wr b 91 #[.string five, .int .i64 1] ∧ Blk wr w.heap.size 57 #[.int .i64 0, .int .i64 0, .string ⟨#[]⟩, .slice none 0 0, .slice none 0 0]))
  case atStart => exact .inl ⟨rfl, hB1, hk1, hR1⟩
  case round =>
    rcases hrel with ⟨rfl, hB, hk, hR⟩ | ⟨rfl, hA, hk, hR⟩
    · have c0 := hk.cell 0; have c1 := hk.cell 1; have f1 := hk.frozen 1
      simp at c0 c1
      go_wp2_with fail
      go_quiet (first | (go_at_call 77; exact Calls.quiet_of ((index5 _).mono fun e w' h => ⟨h.1, 0, h.2.symm⟩)))
      go_wp2_with fail
      go_roundg 0
      case measure => omega
      case rel =>
        refine .inr ⟨rfl, ?_, ?_, ?_⟩
        · exact below_both hkw.out (below_drewN hB nq) _
        · exact hk.drewN nq |>.set_ 1 (.int .i64 1)
        · exact (hR.drewN nq).far (p := ⟨b, 1, none⟩) hne (.int .i64 1)
    · have c0 := hk.cell 0; have c1 := hk.cell 1
      simp at c0 c1
      go_wp2_with fail
      go_quiet (first | fail)
      have hA2 := hA.right (below_drewN (Below.refl w.heap.size wr) nq)
      have hk2 := hk.drewN nq
      have hR2 := hR.drewN nq
      generalize wr.drewN nq = W2 at hA2 hk2 hR2 ⊢
      clear hA hk hR c0 c1
      have c0 := hk2.cell 0; have c1 := hk2.cell 1
      simp at c0 c1
      go_wp2_with fail
      have zb := hk2.lt
      refine wp_region_below (W := W2) (by kernel_rfl) (by kernel_rfl) (Below.refl _ _) ?_
      repeat (first
        | go_big_quiet_skip
        | (apply wpQuiet_one (by rfl)
           · intro w' hw'
             have hc := (bcell hw').1
             go_simp
             first
               | done
               | (go_at_call 24; exact Calls.below_of hw' (parse5 _))
               | rfl
           · go_simp
             rfl))
      refine wpQuiet_nil ?_
      intro wP hbP
      have hz2 := hR2.lt
      have hA3 := hA2.right (hbP.mono (by omega))
      have hR3 := hR2.below hbP hz2
      clear hA2 hR2 hk2 c0 c1 hbP
      have r0 := hR3.cell 0; have r1 := hR3.cell 1; have r2 := hR3.cell 2; have r3 := hR3.cell 3; have r4 := hR3.cell 4
      have g0 := hR3.frozen 0; have g1 := hR3.frozen 1; have g2 := hR3.frozen 2; have g3 := hR3.frozen 3; have g4 := hR3.frozen 4
      simp at r0 r1 r2 r3 r4
      go_wp2_with (go_at_call 64; refine (need_yes _ _).mono ?_; rintro e wn ⟨rfl, rfl⟩)
      have hA5 := hA3.set5 (g := w.heap.size) (Nat.le_refl _) (.int .i64 3) (.int .i64 5) (.string ⟨#[]⟩) (.slice none 0 0) (.slice none 0 0)
      have hR5 := hR3.five5 (.int .i64 3) (.int .i64 5) (.string ⟨#[]⟩) (.slice none 0 0) (.slice none 0 0)
      generalize (((((wP.setCell ⟨w.heap.size, 0, none⟩ (.int .i64 3)).setCell ⟨w.heap.size, 1, none⟩ (.int .i64 5)).setCell ⟨w.heap.size, 2, none⟩ (.string ⟨#[]⟩)).setCell ⟨w.heap.size, 3, none⟩ (.slice none 0 0)).setCell ⟨w.heap.size, 4, none⟩ (.slice none 0 0)) = W5 at hA5 hR5 ⊢
      have q0 := hR5.cell 0; have q1 := hR5.cell 1; have q2 := hR5.cell 2; have q3 := hR5.cell 3; have q4 := hR5.cell 4
      simp at q0 q1 q2 q3 q4
      refine bodyPost_ret (v := .agg #[.int .i64 3, .int .i64 5, .string ⟨#[]⟩, .slice none 0 0, .slice none 0 0]) ?_ rfl ⟨rfl, hA5⟩
      simp [results, Tryd.results97, go_sem, q0, q1, q2, q3, q4]
end Go.Proofs.YtlandmahjdaphaaDoor
