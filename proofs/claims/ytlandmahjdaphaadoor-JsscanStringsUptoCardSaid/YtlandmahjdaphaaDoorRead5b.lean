/-
  literal: value and Read at "5"; jsscan.Literal at " 5 ".
-/
import Derived.Test.YtlandmahjdaphaaDoorRead5
import Derived.Test.YtlandmahjdaphaaDoorTrim
namespace Go.Proofs.YtlandmahjdaphaaDoor
open Go.RowKit
set_option linter.unusedVariables false
set_option linter.unusedSimpArgs false

theorem Blk.far5 {w : World} {k g : Nat} {t : TypeId} {cs : Array Value} (h : Blk w k t cs) (hk : k ≠ g) (v0 v1 v2 v3 v4 : Value) :
    Blk (((((w.setCell ⟨g, 0, none⟩ v0).setCell ⟨g, 1, none⟩ v1).setCell ⟨g, 2, none⟩ v2).setCell ⟨g, 3, none⟩ v3).setCell ⟨g, 4, none⟩ v4) k t cs :=
  ((((h.far (p := ⟨g, 0, none⟩) hk v0).far (p := ⟨g, 1, none⟩) hk v1).far (p := ⟨g, 2, none⟩) hk v2).far (p := ⟨g, 3, none⟩) hk v3).far (p := ⟨g, 4, none⟩) hk v4
abbrev wNull : ByteArray := ⟨#[110, 117, 108, 108]⟩
abbrev wFalse : ByteArray := ⟨#[102, 97, 108, 115, 101]⟩
abbrev wTrue : ByteArray := ⟨#[116, 114, 117, 101]⟩
set_option maxHeartbeats 2000000 in
set_option maxRecDepth 100000 in
theorem value5 (b : Nat) (w : World) (hk : Blk w b 91 #[.string five, .int .i64 0]) :
    Calls Tryd.prog 63 #[.pointer (some ⟨b, 0, none⟩), .int .i64 16] w fun e w' => e = .returned (.agg #[.int .i64 3, .int .i64 5, .string ⟨#[]⟩, .slice none 0 0, .slice none 0 0]) ∧ AtOne b w w' := by
  have hbl := hk.lt
  have hne : w.heap.size ≠ b := by omega
  have hR0 := (Blk.new w 57 #[.int .i64 0, .int .i64 0, .string ⟨#[]⟩, .slice none 0 0, .slice none 0 0]).alloc (.cells #[.string wNull, .string wFalse, .string wTrue] 9)
  have hS0 := Blk.new (w.alloc (.cells #[.int .i64 0, .int .i64 0, .string ⟨#[]⟩, .slice none 0 0, .slice none 0 0] 57)) 9 #[.string wNull, .string wFalse, .string wTrue]
  have hk0 := (hk.alloc (.cells #[.int .i64 0, .int .i64 0, .string ⟨#[]⟩, .slice none 0 0, .slice none 0 0] 57)).alloc (.cells #[.string wNull, .string wFalse, .string wTrue] 9)
  have hB0 := ((Below.refl w.heap.size w).alloc (Nat.le_refl _) (.cells #[.int .i64 0, .int .i64 0, .string ⟨#[]⟩, .slice none 0 0, .slice none 0 0] 57)).alloc (by simp) (.cells #[.string wNull, .string wFalse, .string wTrue] 9)
  rw [World.size_alloc] at hS0
  go_enter Tryd.func63, Tryd.ntmps63
  go_wp2_with fail
  generalize (w.alloc (.cells #[.int .i64 0, .int .i64 0, .string ⟨#[]⟩, .slice none 0 0, .slice none 0 0] 57)).alloc (.cells #[.string wNull, .string wFalse, .string wTrue] 9) = W0 at hR0 hS0 hk0 hB0 ⊢
  go_loopw [10] (fun i wr => ∃ (k : Nat), i = .int .i64 (k : Int) ∧ k ≤ 3 ∧ Below w.heap.size w wr ∧ Blk wr b 91 #[.string five, .int .i64 0] ∧ Blk wr w.heap.size 57 #[.int .i64 0, .int .i64 0, .string ⟨#[]⟩, .slice none 0 0, .slice none 0 0]
     ∧ Blk wr (w.heap.size + 1) 9 #[.string wNull, .string wFalse, .string wTrue]) (fun i _ => 3 - (intOf i).toNat)
  case atStart => exact ⟨0, rfl, Nat.zero_le _, hB0, hk0, hR0, hS0⟩
  case round =>
    obtain ⟨k, rfl, hk3, hB, hkr, hR, hS⟩ := hrel
    by_cases hlt : k < 3
    · obtain ⟨t, ht, hp⟩ : ∃ t : ByteArray, (#[.string wNull, .string wFalse, .string wTrue] : Array Value)[k]? = some (.string t) ∧ Lib.hasPrefix [53] t.data.toList = false := by
        have : k = 0 ∨ k = 1 ∨ k = 2 := by omega
        rcases this with rfl | rfl | rfl
        · exact ⟨_, rfl, by decide⟩
        · exact ⟨_, rfl, by decide⟩
        · exact ⟨_, rfl, by decide⟩
      have hc := (hS.cell k).trans ht
      have cT := hide (took_no b t wr hkr hp)
      have hki : (k : Int) < 3 := by omega
      clear ht hp
      go_wp2_with (go_at_call 93; refine (cT.out).mono ?_; rintro e w2 ⟨rfl, hb2⟩)
      go_roundw
      case rel => exact ⟨k + 1, by go_num, by omega, hB.trans (hb2.mono hB.size), hkr.below hb2 hkr.lt, hR.below hb2 hR.lt, hS.below hb2 hS.lt⟩
      case measure => simp [intOf]; omega
    · have hk2 : k = 3 := by omega
      subst hk2
      clear hS
      go_wp2_with fail
      refine (took_no b ⟨#[34]⟩ _ hkr (by decide)).mono ?_
      rintro e w1 ⟨rfl, hb1⟩
      have hB1 := hB.trans (hb1.mono hB.size)
      have hk1 := hkr.below hb1 hkr.lt
      have hR1 := hR.below hb1 hR.lt
      clear hB hkr hR hb1
      go_wp2_with fail
      refine (took_no b ⟨#[91]⟩ _ hk1 (by decide)).mono ?_
      rintro e w2 ⟨rfl, hb2⟩
      have hB2 := hB1.trans (hb2.mono hB1.size)
      have hk2 := hk1.below hb2 hk1.lt
      have hR2 := hR1.below hb2 hR1.lt
      clear hB1 hk1 hR1 hb2
      go_wp2_with fail
      refine (took_no b ⟨#[123]⟩ _ hk2 (by decide)).mono ?_
      rintro e w3 ⟨rfl, hb3⟩
      have hB3 := hB2.trans (hb3.mono hB2.size)
      have hk3 := hk2.below hb3 hk2.lt
      have hR3 := hR2.below hb3 hR2.lt
      clear hB2 hk2 hR2 hb3
      go_wp2_with fail
      refine (digits5 b _ hk3).mono ?_
      rintro e w4 ⟨rfl, hA4⟩
      have hR4 := hA4.blk hR3 hne
      have hA := hA4.left hk hB3
      have r0 := hR4.cell 0; have r1 := hR4.cell 1; have r2 := hR4.cell 2; have r3 := hR4.cell 3; have r4 := hR4.cell 4
      have g0 := hR4.frozen 0; have g1 := hR4.frozen 1; have g2 := hR4.frozen 2; have g3 := hR4.frozen 3; have g4 := hR4.frozen 4
      simp at r0 r1 r2 r3 r4
      clear hA4 hB3 hk3 hR3
      go_wp2_with fail
      have hA5 := hA.set5 (g := w.heap.size) (Nat.le_refl _) (.int .i64 3) (.int .i64 5) (.string ⟨#[]⟩) (.slice none 0 0) (.slice none 0 0)
      have hR5 := hR4.five5 (.int .i64 3) (.int .i64 5) (.string ⟨#[]⟩) (.slice none 0 0) (.slice none 0 0)
      generalize (((((w4.setCell ⟨w.heap.size, 0, none⟩ (.int .i64 3)).setCell ⟨w.heap.size, 1, none⟩ (.int .i64 5)).setCell ⟨w.heap.size, 2, none⟩ (.string ⟨#[]⟩)).setCell ⟨w.heap.size, 3, none⟩ (.slice none 0 0)).setCell ⟨w.heap.size, 4, none⟩ (.slice none 0 0)) = W5 at hA5 hR5 ⊢
      have q0 := hR5.cell 0; have q1 := hR5.cell 1; have q2 := hR5.cell 2; have q3 := hR5.cell 3; have q4 := hR5.cell 4
      simp at q0 q1 q2 q3 q4
      (try simp only [Exit.inBlock, Exit.then])
      refine bodyPost_ret (v := .agg #[.int .i64 3, .int .i64 5, .string ⟨#[]⟩, .slice none 0 0, .slice none 0 0]) ?_ rfl ⟨rfl, hA5⟩
      simp [results, Tryd.results63, go_sem, q0, q1, q2, q3, q4]
theorem assert_nil (W : World) : (Instr.typeAssert .nilIface 20 30 true).run Tryd.prog W = .ok (.tuple #[.int .i64 0, .bool false]) W := by kernel_rfl
set_option maxHeartbeats 1000000 in
set_option maxRecDepth 100000 in
theorem read_idle (a1 a2 a3 : Addr) (w : World) :
    CallsD Tryd.prog 62 #[.pointer (some a1), .pointer (some a2), .pointer (some a3)] .returning w fun e u' w' => e = .returned (.tuple #[]) ∧ u' = .returning ∧ w' = w := by
  refine callsD_of_wpS Tryd.func62 rfl fun c₀ cs hu => ?_
  apply wpS_seq
  apply wpS_region
  simp [wpOpsS, go_sem, recoverD, hu, Tryd.ntmps62, Exit.thenS, assert_nil, Array.replicate]
  apply wpS_seq
  apply wpS_region
  simp [wpOpsS, go_sem, Exit.thenS]
  refine wpS_cond (t := false) (by simp [Act.eval]) ?_
  simp only [Bool.false_eq_true, if_false]
  refine wpS_of_wp (wp_skip ?_)
  cases c₀
  simp_all [bodyPostS, results, Tryd.results62]
set_option maxHeartbeats 2000000 in
set_option maxRecDepth 100000 in
theorem read5 (w : World) :
    Calls Tryd.prog 32 #[.string five] w fun e w' => e = .returned (.tuple #[.agg #[.int .i64 3, .int .i64 5, .string ⟨#[]⟩, .slice none 0 0, .slice none 0 0], .int .i64 1, .int .i64 0]) ∧ Below w.heap.size w w' := by
  have hmf : ∀ (fn : Fn) (first cap : Array Value) (w : World), (Instr.makeFunc fn first cap).run Tryd.prog w = .ok (.func fn first cap) w := fun _ _ _ _ => rfl
  have hV0 := (((Blk.new w 57 #[.int .i64 0, .int .i64 0, .string ⟨#[]⟩, .slice none 0 0, .slice none 0 0]).alloc (.cells #[.int .i64 0] 3)).alloc (.cells #[.int .i64 0] 30)).alloc (.cells #[.string five, .int .i64 0] 91)
  have hN0 := ((Blk.new (w.alloc (.cells #[.int .i64 0, .int .i64 0, .string ⟨#[]⟩, .slice none 0 0, .slice none 0 0] 57)) 3 #[.int .i64 0]).alloc (.cells #[.int .i64 0] 30)).alloc (.cells #[.string five, .int .i64 0] 91)
  have hE0 := (Blk.new ((w.alloc (.cells #[.int .i64 0, .int .i64 0, .string ⟨#[]⟩, .slice none 0 0, .slice none 0 0] 57)).alloc (.cells #[.int .i64 0] 3)) 30 #[.int .i64 0]).alloc (.cells #[.string five, .int .i64 0] 91)
  have hK0 := Blk.new (((w.alloc (.cells #[.int .i64 0, .int .i64 0, .string ⟨#[]⟩, .slice none 0 0, .slice none 0 0] 57)).alloc (.cells #[.int .i64 0] 3)).alloc (.cells #[.int .i64 0] 30)) 91 #[.string five, .int .i64 0]
  have hB0 := ((((Below.refl w.heap.size w).alloc (Nat.le_refl _) (.cells #[.int .i64 0, .int .i64 0, .string ⟨#[]⟩, .slice none 0 0, .slice none 0 0] 57)).alloc (by simp) (.cells #[.int .i64 0] 3)).alloc (by simp; omega) (.cells #[.int .i64 0] 30)).alloc (by simp; omega) (.cells #[.string five, .int .i64 0] 91)
  simp only [World.size_alloc] at hN0 hE0 hK0
  go_enter_defers Tryd.func32, Tryd.ntmps32
  go_wp2_with fail
  generalize (((w.alloc (.cells #[.int .i64 0, .int .i64 0, .string ⟨#[]⟩, .slice none 0 0, .slice none 0 0] 57)).alloc (.cells #[.int .i64 0] 3)).alloc (.cells #[.int .i64 0] 30)).alloc (.cells #[.string five, .int .i64 0] 91) = W0 at hV0 hN0 hE0 hK0 hB0 ⊢
  refine (value5 (w.heap.size + 1 + 1 + 1) _ hK0).mono ?_
  rintro e w1 ⟨rfl, hA⟩
  have hV1 := hA.blk hV0 (by omega)
  have hN1 := hA.blk hN0 (by omega)
  have hE1 := hA.blk hE0 (by omega)
  have hK1 := hA.own hK0
  have hB1 := hB0.trans (hA.below (B := w.heap.size) (by omega) hB0.size)
  clear hV0 hN0 hE0 hK0 hA hB0
  have v0 := hV1.cell 0; have v1 := hV1.cell 1; have v2 := hV1.cell 2; have v3 := hV1.cell 3; have v4 := hV1.cell 4
  have g0 := hV1.frozen 0; have g1 := hV1.frozen 1; have g2 := hV1.frozen 2; have g3 := hV1.frozen 3; have g4 := hV1.frozen 4
  have n0 := hN1.cell 0; have m0 := hN1.frozen 0
  have e0 := hE1.cell 0; have l0 := hE1.frozen 0
  have k1 := hK1.cell 1
  simp at v0 v1 v2 v3 v4 n0 e0 k1
  go_wp2_with (go_at_call 64; refine (need_yes _ _).mono ?_; rintro e wn ⟨rfl, rfl⟩)
  have hV2 := (((hV1.five5 (.int .i64 3) (.int .i64 5) (.string ⟨#[]⟩) (.slice none 0 0) (.slice none 0 0)).five5 (.int .i64 3) (.int .i64 5) (.string ⟨#[]⟩) (.slice none 0 0) (.slice none 0 0)).far (p := ⟨w.heap.size + 1, 0, none⟩) (by simp) (.int .i64 1)).far (p := ⟨w.heap.size + 1 + 1, 0, none⟩) (by simp; omega) (.int .i64 0)
  have hN2 := (((hN1.far5 (g := w.heap.size) (by omega) (.int .i64 3) (.int .i64 5) (.string ⟨#[]⟩) (.slice none 0 0) (.slice none 0 0)).far5 (g := w.heap.size) (by omega) (.int .i64 3) (.int .i64 5) (.string ⟨#[]⟩) (.slice none 0 0) (.slice none 0 0)).set_ 0 (.int .i64 1)).far (p := ⟨w.heap.size + 1 + 1, 0, none⟩) (by simp) (.int .i64 0)
  have hE2 := (((hE1.far5 (g := w.heap.size) (by omega) (.int .i64 3) (.int .i64 5) (.string ⟨#[]⟩) (.slice none 0 0) (.slice none 0 0)).far5 (g := w.heap.size) (by omega) (.int .i64 3) (.int .i64 5) (.string ⟨#[]⟩) (.slice none 0 0) (.slice none 0 0)).far (p := ⟨w.heap.size + 1, 0, none⟩) (by simp) (.int .i64 1)).set_ 0 (.int .i64 0)
  have hB2 : Below w.heap.size w ((((((((((((w1.setCell ⟨w.heap.size, 0, none⟩ (.int .i64 3)).setCell ⟨w.heap.size, 1, none⟩ (.int .i64 5)).setCell ⟨w.heap.size, 2, none⟩ (.string ⟨#[]⟩)).setCell ⟨w.heap.size, 3, none⟩ (.slice none 0 0)).setCell ⟨w.heap.size, 4, none⟩ (.slice none 0 0)).setCell ⟨w.heap.size, 0, none⟩ (.int .i64 3)).setCell ⟨w.heap.size, 1, none⟩ (.int .i64 5)).setCell ⟨w.heap.size, 2, none⟩ (.string ⟨#[]⟩)).setCell ⟨w.heap.size, 3, none⟩ (.slice none 0 0)).setCell ⟨w.heap.size, 4, none⟩ (.slice none 0 0)).setCell ⟨w.heap.size + 1, 0, none⟩ (.int .i64 1)).setCell ⟨w.heap.size + 1 + 1, 0, none⟩ (.int .i64 0)) := by
    repeat (refine Below.setCell ?_ (by simp <;> omega) _)
    exact hB1
  generalize ((((((((((((w1.setCell ⟨w.heap.size, 0, none⟩ (.int .i64 3)).setCell ⟨w.heap.size, 1, none⟩ (.int .i64 5)).setCell ⟨w.heap.size, 2, none⟩ (.string ⟨#[]⟩)).setCell ⟨w.heap.size, 3, none⟩ (.slice none 0 0)).setCell ⟨w.heap.size, 4, none⟩ (.slice none 0 0)).setCell ⟨w.heap.size, 0, none⟩ (.int .i64 3)).setCell ⟨w.heap.size, 1, none⟩ (.int .i64 5)).setCell ⟨w.heap.size, 2, none⟩ (.string ⟨#[]⟩)).setCell ⟨w.heap.size, 3, none⟩ (.slice none 0 0)).setCell ⟨w.heap.size, 4, none⟩ (.slice none 0 0)).setCell ⟨w.heap.size + 1, 0, none⟩ (.int .i64 1)).setCell ⟨w.heap.size + 1 + 1, 0, none⟩ (.int .i64 0)) = W2 at hV2 hN2 hE2 hB2 ⊢
  clear hV1 hN1 hE1 hB1 v0 v1 v2 v3 v4 g0 g1 g2 g3 g4 n0 m0 e0 l0 k1 hK1
  have v0 := hV2.cell 0; have v1 := hV2.cell 1; have v2 := hV2.cell 2; have v3 := hV2.cell 3; have v4 := hV2.cell 4
  have n0 := hN2.cell 0; have e0 := hE2.cell 0
  simp at v0 v1 v2 v3 v4 n0 e0
  refine leaves_cons (f := 62) (args := #[.pointer (some ⟨w.heap.size, 0, none⟩), .pointer (some ⟨w.heap.size + 1, 0, none⟩), .pointer (some ⟨w.heap.size + 1 + 1, 0, none⟩)]) (by simp) (by simp [go_sem]) ?_
  refine (read_idle _ _ _ _).mono ?_
  rintro e u' w'' ⟨rfl, rfl, rfl⟩
  simp [Leaves, settle, results, Tryd.results32, go_sem, v0, v1, v2, v3, v4, n0, e0]
  exact hB2
theorem trim5 : trimL [32, 53, 32] = [53] := by decide
set_option maxHeartbeats 1000000 in
set_option maxRecDepth 100000 in
theorem literal5 (w : World) : Calls Tryd.prog 16 #[.string ⟨#[32, 53, 32]⟩] w fun e w' => e = .returned (.bool true) ∧ Below w.heap.size w w' := by
  have cT := fun w => octTrim_any ⟨#[32, 53, 32]⟩ w (by decide)
  rw [show (ByteArray.mk #[32, 53, 32]).data.toList = [32, 53, 32] from rfl, trim5] at cT
  have cT := hide cT
  have cP := fun w => hasPrefix_any five ⟨#[45]⟩ w
  rw [show Lib.hasPrefix five.data.toList (ByteArray.mk #[45]).data.toList = false by decide] at cP
  have cP := hide cP
  go_enter Tryd.func16, Tryd.ntmps16
  go_wp2_with fail
  refine (cT.out _).mono ?_
  rintro e w1 ⟨t, rfl, hb1, ht⟩
  obtain rfl : t = five := by
    obtain ⟨⟨t⟩⟩ := t
    simp only at ht
    subst ht
    rfl
  clear ht
  go_wp2_with (first | (go_at_call 31; refine (cP.out _).mono ?_; rintro e w2 ⟨rfl, rfl⟩) | (go_at_call 32; refine (read5 _).mono ?_; rintro e w2 ⟨rfl, hb2⟩))
  have hB := below_step hb1 hb2
  go_ret
  exact ⟨rfl, hB.alloc hB.size _⟩
end Go.Proofs.YtlandmahjdaphaaDoor
