/-
  PLAIN LAWS of many texts, in one.
-/
import Derived.Test.YtdnmgpidfjkiaaaDoorM7
import Derived.Test.YtdnmgpidfjkiaaaDoorM5
import Derived.Test.YtdnmgpidfjkiaaaDoorStr
namespace Go.Proofs.YtdnmgpidfjkiaaaDoor
open Go.RowKit
set_option linter.unusedVariables false
set_option linter.unusedSimpArgs false

theorem stepB_leW (p : Pos) (c : UInt8) (h : p.1 ≤ 15) (hw : p.2.length ≤ 1048576) : (stepB p c).1 ≤ 15 ∧ (stepB p c).2.length ≤ 1048576 := by
  obtain ⟨n, w⟩ := p
  simp only at h hw
  have hk := stepB_le (n, []) c h (Nat.zero_le _)
  have hz := hk.2
  have hword : ∀ part, (codeB part w c).2.length ≤ 1048576 := fun part => by
    unfold codeB; split
    · split
      · simp; omega
      · exact hw
    · simp
  have hn : n = 0 ∨ n = 1 ∨ n = 2 ∨ n = 3 ∨ n = 4 ∨ n = 5 ∨ n = 6 ∨ n = 7 ∨ n = 8 ∨ n = 9 ∨ n = 10 ∨ n = 11 ∨ n = 12 ∨ n = 13 ∨ n = 14 ∨ n = 15 := by omega
  rcases hn with rfl | rfl | rfl | rfl | rfl | rfl | rfl | rfl | rfl | rfl | rfl | rfl | rfl | rfl | rfl | rfl
  · exact ⟨codeB_le 0 w c (by decide), hword 0⟩
  · exact ⟨codeB_le 1 w c (by decide), hword 1⟩
  all_goals exact ⟨hk.1, Nat.le_trans hz (by decide)⟩
theorem blankB_is (c : UInt8) : blankB c = isBlank c := eq_of_beq (allBytes (fun c => blankB c == isBlank c) (by decide +kernel) c)
theorem ret_pos {a b : Nat} {x : List UInt8} (h : a = b) : Ending.returned (.tuple #[.int .i64 (a : Int), .string ⟨x.toArray⟩]) = .returned (.tuple #[.int .i64 (b : Int), .string ⟨x.toArray⟩]) := by rw [h]
set_option maxHeartbeats 4000000 in
set_option maxRecDepth 100000 in
theorem code_any (part : Nat) (word : List UInt8) (c : UInt8) (w : World) (hp : part ≤ 15) (hw : word.length ≤ 1048576) (ht : Lib.TabIs Tryd.prog w "strings.asciiSpace" .u8 Lib.asciiSpaceTab) :
    Calls Tryd.prog 84 #[.int .i64 (part : Int), .string ⟨word.toArray⟩, .int .u8 (c.toNat : Int)] w fun e w' => e = .returned (.tuple #[.int .i64 ((codeB part word c).1 : Int), .string ⟨(codeB part word c).2.toArray⟩]) ∧ Below w.heap.size w w' := by
  have cW := wordy_any c w
  have hc1 : wordyB c = true → codeB part word c = (1, if word.length < 16 then word ++ [c] else word) := fun h => by unfold codeB; rw [if_pos h]
  have hc2 : wordyB c = false → codeB part word c = (signB (endedB part word) c, []) := fun h => by unfold codeB; rw [if_neg (by simp [h])]
  rcases Bool.eq_false_or_eq_true (wordyB c) with hb | hb
  · rw [hc1 hb]
    rw [hb] at cW
    clear hc1 hc2 hb
    have cW := hide cW
    have hwi : (word.length : Int) ≤ 1048576 := by omega
    by_cases hl : word.length < 16
    · have hli : (word.length : Int) < 16 := by omega
      rw [if_pos hl]
      have happ : (⟨word.toArray⟩ : ByteArray) ++ ⟨#[c]⟩ = ⟨(word ++ [c]).toArray⟩ := by apply ByteArray.ext; simp
      clear hl
      have hB1 := (Below.refl w.heap.size w).alloc (Nat.le_refl _) (.cells #[.int .u8 (c.toNat : Int)] 5)
      have hcv := conv_new w [c] #[.int .u8 (c.toNat : Int)] 1 rfl rfl
      rw [← happ]
      clear happ
      go_enter Tryd.func84, Tryd.ntmps84
      go_wp2_with (go_at_call 111; refine (cW.out).mono ?_; rintro e w1 ⟨rfl, rfl⟩)
      go_wp2_with fail
      go_ret2
      exact ⟨rfl, hB1⟩
    · have hli : decide ((word.length : Int) < 16) = false := by simp; omega
      rw [if_neg hl]
      clear hl
      go_enter Tryd.func84, Tryd.ntmps84
      go_wp2_with (go_at_call 111; refine (cW.out).mono ?_; rintro e w1 ⟨rfl, rfl⟩)
      go_ret2
      exact ⟨rfl, Below.refl _ _⟩
  · rw [hc2 hb]
    rw [hb] at cW
    clear hc1 hc2 hb
    have cE := ended_any part word w ht
    have cB := fun w => blank_any c w
    have hsg : ∀ n, signB n c = if isBlank c then n else if (c.toNat : Int) == (34 : Nat) then 2 else if (c.toNat : Int) == (39 : Nat) then 3 else if (c.toNat : Int) == (96 : Nat) then 15
      else if (c.toNat : Int) == (47 : Nat) then (if n == 0 then 13 else 14) else if (c.toNat : Int) == (41 : Nat) || ((c.toNat : Int) == (93 : Nat) || (c.toNat : Int) == (125 : Nat)) then 1 else 0 := by
      intro n; unfold signB; rw [blankB_is, eq_int c 34 34 rfl, eq_int c 39 39 rfl, eq_int c 96 96 rfl, eq_int c 47 47 rfl, eq_int c 41 41 rfl, eq_int c 93 93 rfl, eq_int c 125 125 rfl]
    rw [hsg]
    clear hsg
    generalize endedB part word = n at cE ⊢
    generalize isBlank c = bl at cB ⊢
    have hx : ((34 : Nat) : Int) = 34 ∧ ((39 : Nat) : Int) = 39 ∧ ((96 : Nat) : Int) = 96 ∧ ((47 : Nat) : Int) = 47 ∧ ((41 : Nat) : Int) = 41 ∧ ((93 : Nat) : Int) = 93 ∧ ((125 : Nat) : Int) = 125 := by decide
    obtain ⟨x1, x2, x3, x4, x5, x6, x7⟩ := hx
    rw [x1, x2, x3, x4, x5, x6, x7]
    clear x1 x2 x3 x4 x5 x6 x7
    obtain ⟨R, hR⟩ : ∃ R, (if bl then n else if (c.toNat : Int) == 34 then 2 else if (c.toNat : Int) == 39 then 3 else if (c.toNat : Int) == 96 then 15 else if (c.toNat : Int) == 47 then (if n == 0 then 13 else 14) else if (c.toNat : Int) == 41 || ((c.toNat : Int) == 93 || (c.toNat : Int) == 125) then 1 else 0) = R := ⟨_, rfl⟩
    rw [hR]
    have HR := hide hR
    clear hR
    have hn0 : ((n : Int) == 0) = (n == 0) := int_beq n 0
    have cW := hide cW; have cE := hide cE; have cB := hide cB
    have HB := hide hn0; clear hn0
    go_enter Tryd.func84, Tryd.ntmps84
    go_wp2_with (first | (go_at_call 111; refine (cW.out).mono ?_; rintro e w1 ⟨rfl, rfl⟩) | (go_at_call 112; refine (cE.out).mono ?_; rintro e w1 ⟨rfl, hb1⟩) | (go_at_call 46; refine (cB.out _).mono ?_; rintro e w2 ⟨rfl, rfl⟩))
    all_goals first
      | (exfalso; simp_all; done)
      | (go_ret2; refine ⟨?_, hb1⟩; rw [← HR.out]; clear HR cW cE cB; have hn := HB.out; clear HB; simp_all; done)
set_option maxHeartbeats 4000000 in
set_option maxRecDepth 100000 in
theorem slashed_any (part : Nat) (hp : part = 13 ∨ part = 14) (c : UInt8) (w : World) (ht : Lib.TabIs Tryd.prog w "strings.asciiSpace" .u8 Lib.asciiSpaceTab) :
    Calls Tryd.prog 89 #[.int .i64 (part : Int), .int .u8 (c.toNat : Int)] w fun e w' => e = .returned (.tuple #[.int .i64 ((slashedB part c).1 : Int), .string ⟨(slashedB part c).2.toArray⟩]) ∧ Below w.heap.size w w' := by
  have e47 := eq_int c 47 47 rfl
  have e42 := eq_int c 42 42 rfl
  rcases Bool.eq_false_or_eq_true ((c.toNat : Int) == (47 : Nat)) with g1 | g1
  · have g1' : ((c.toNat : Int) == 47) = true := g1
    rw [show slashedB part c = (6, []) by unfold slashedB; rw [e47, g1]; rfl]
    clear e47 e42
    go_enter Tryd.func89, Tryd.ntmps89
    go_wp2_with fail
    go_ret2
    exact ⟨rfl, Below.refl _ _⟩
  · have g1' : ((c.toNat : Int) == 47) = false := g1
    rcases Bool.eq_false_or_eq_true ((c.toNat : Int) == (42 : Nat)) with g2 | g2
    · have g2' : ((c.toNat : Int) == 42) = true := g2
      rw [show slashedB part c = (7, []) by unfold slashedB; rw [e47, g1, e42, g2]; rfl]
      clear e47 e42
      go_enter Tryd.func89, Tryd.ntmps89
      go_wp2_with fail
      go_ret2
      exact ⟨rfl, Below.refl _ _⟩
    · have g2' : ((c.toNat : Int) == 42) = false := g2
      rcases hp with rfl | rfl
      · rw [show slashedB 13 c = (matchedB 9 c, []) by unfold slashedB; rw [e47, g1, e42, g2]; rfl]
        have cM := hide (matched_any 9 (.inl rfl) c w)
        clear e47 e42
        generalize matchedB 9 c = m at cM ⊢
        go_enter Tryd.func89, Tryd.ntmps89
        go_wp2_with (go_at_call 88; refine (cM.out).mono ?_; rintro e w1 ⟨rfl, rfl⟩)
        go_ret2
        exact ⟨rfl, Below.refl _ _⟩
      · rw [show slashedB 14 c = codeB 0 [] c by unfold slashedB; rw [e47, g1, e42, g2]; rfl]
        have cC := code_any 0 [] c w (by omega) (by simp) ht
        clear e47 e42
        generalize codeB 0 [] c = m at cC ⊢
        obtain ⟨m1, m2⟩ := m
        have cC := hide cC
        go_enter Tryd.func89, Tryd.ntmps89
        go_wp2_with (go_at_call 84; refine (cC.out).mono ?_; rintro e w1 ⟨rfl, hb1⟩)
        go_ret2
        exact ⟨rfl, hb1⟩
set_option maxHeartbeats 4000000 in
set_option maxRecDepth 100000 in
theorem step_any (p : Pos) (c : UInt8) (w : World) (hp : p.1 ≤ 15) (hw : p.2.length ≤ 1048576) (ht : Lib.TabIs Tryd.prog w "strings.asciiSpace" .u8 Lib.asciiSpaceTab) :
    Calls Tryd.prog 57 #[.int .i64 (p.1 : Int), .string ⟨p.2.toArray⟩, .int .u8 (c.toNat : Int)] w fun e w' => e = .returned (.tuple #[.int .i64 ((stepB p c).1 : Int), .string ⟨(stepB p c).2.toArray⟩]) ∧ Below w.heap.size w w' := by
  obtain ⟨n, word⟩ := p
  simp only at hp hw
  have hn : n = 0 ∨ n = 1 ∨ n = 2 ∨ n = 3 ∨ n = 4 ∨ n = 5 ∨ n = 6 ∨ n = 7 ∨ n = 8 ∨ n = 9 ∨ n = 10 ∨ n = 11 ∨ n = 12 ∨ n = 13 ∨ n = 14 ∨ n = 15 := by omega
  have cN := newl_any c w
  rcases hn with rfl | rfl | rfl | rfl | rfl | rfl | rfl | rfl | rfl | rfl | rfl | rfl | rfl | rfl | rfl | rfl
  · have cC := code_any 0 word c w (by omega) hw ht
    show Calls Tryd.prog 57 #[.int .i64 0, .string ⟨word.toArray⟩, .int .u8 (c.toNat : Int)] w fun e w' => e = .returned (.tuple #[.int .i64 ((codeB 0 word c).1 : Int), .string ⟨(codeB 0 word c).2.toArray⟩]) ∧ Below w.heap.size w w'
    generalize codeB 0 word c = m at cC ⊢
    obtain ⟨m1, m2⟩ := m
    have cC := hide cC
    go_enter Tryd.func57, Tryd.ntmps57
    go_wp2_with (go_at_call 84; refine (cC.out).mono ?_; rintro e w1 ⟨rfl, hb1⟩)
    go_ret2
    exact ⟨rfl, hb1⟩
  · have cC := code_any 1 word c w (by omega) hw ht
    show Calls Tryd.prog 57 #[.int .i64 1, .string ⟨word.toArray⟩, .int .u8 (c.toNat : Int)] w fun e w' => e = .returned (.tuple #[.int .i64 ((codeB 1 word c).1 : Int), .string ⟨(codeB 1 word c).2.toArray⟩]) ∧ Below w.heap.size w w'
    generalize codeB 1 word c = m at cC ⊢
    obtain ⟨m1, m2⟩ := m
    have cC := hide cC
    go_enter Tryd.func57, Tryd.ntmps57
    go_wp2_with (go_at_call 84; refine (cC.out).mono ?_; rintro e w1 ⟨rfl, hb1⟩)
    go_ret2
    exact ⟨rfl, hb1⟩
  · have cC := quoted_any 2 (.inl rfl) c w
    show Calls Tryd.prog 57 #[.int .i64 2, .string ⟨word.toArray⟩, .int .u8 (c.toNat : Int)] w fun e w' => e = .returned (.tuple #[.int .i64 (quotedB 2 c : Int), .string ⟨#[]⟩]) ∧ Below w.heap.size w w'
    generalize quotedB 2 c = m at cC ⊢
    have cC := hide cC
    go_enter Tryd.func57, Tryd.ntmps57
    go_wp2_with (go_at_call 85; refine (cC.out).mono ?_; rintro e w1 ⟨rfl, rfl⟩)
    go_ret2
    exact ⟨rfl, Below.refl _ _⟩
  · have cC := quoted_any 3 (.inr rfl) c w
    show Calls Tryd.prog 57 #[.int .i64 3, .string ⟨word.toArray⟩, .int .u8 (c.toNat : Int)] w fun e w' => e = .returned (.tuple #[.int .i64 (quotedB 3 c : Int), .string ⟨#[]⟩]) ∧ Below w.heap.size w w'
    generalize quotedB 3 c = m at cC ⊢
    have cC := hide cC
    go_enter Tryd.func57, Tryd.ntmps57
    go_wp2_with (go_at_call 85; refine (cC.out).mono ?_; rintro e w1 ⟨rfl, rfl⟩)
    go_ret2
    exact ⟨rfl, Below.refl _ _⟩
  · show Calls Tryd.prog 57 #[.int .i64 4, .string ⟨word.toArray⟩, .int .u8 (c.toNat : Int)] w fun e w' => e = .returned (.tuple #[.int .i64 2, .string ⟨#[]⟩]) ∧ Below w.heap.size w w'
    clear cN
    go_enter Tryd.func57, Tryd.ntmps57
    go_wp2_with fail
    go_ret2
    exact ⟨rfl, Below.refl _ _⟩
  · show Calls Tryd.prog 57 #[.int .i64 5, .string ⟨word.toArray⟩, .int .u8 (c.toNat : Int)] w fun e w' => e = .returned (.tuple #[.int .i64 3, .string ⟨#[]⟩]) ∧ Below w.heap.size w w'
    clear cN
    go_enter Tryd.func57, Tryd.ntmps57
    go_wp2_with fail
    go_ret2
    exact ⟨rfl, Below.refl _ _⟩
  · show Calls Tryd.prog 57 #[.int .i64 6, .string ⟨word.toArray⟩, .int .u8 (c.toNat : Int)] w fun e w' => e = .returned (.tuple #[.int .i64 ((if newlB c then 0 else 6 : Nat) : Int), .string ⟨#[]⟩]) ∧ Below w.heap.size w w'
    generalize newlB c = b at cN ⊢
    have cN := hide cN
    cases b
    · go_enter Tryd.func57, Tryd.ntmps57
      go_wp2_with (go_at_call 86; refine (cN.out).mono ?_; rintro e w1 ⟨rfl, rfl⟩)
      go_ret2
      exact ⟨rfl, Below.refl _ _⟩
    · go_enter Tryd.func57, Tryd.ntmps57
      go_wp2_with (go_at_call 86; refine (cN.out).mono ?_; rintro e w1 ⟨rfl, rfl⟩)
      go_ret2
      exact ⟨rfl, Below.refl _ _⟩
  · have cC := remark_any 7 (.inl rfl) c w
    show Calls Tryd.prog 57 #[.int .i64 7, .string ⟨word.toArray⟩, .int .u8 (c.toNat : Int)] w fun e w' => e = .returned (.tuple #[.int .i64 (remarkB 7 c : Int), .string ⟨#[]⟩]) ∧ Below w.heap.size w w'
    generalize remarkB 7 c = m at cC ⊢
    have cC := hide cC
    go_enter Tryd.func57, Tryd.ntmps57
    go_wp2_with (go_at_call 87; refine (cC.out).mono ?_; rintro e w1 ⟨rfl, rfl⟩)
    go_ret2
    exact ⟨rfl, Below.refl _ _⟩
  · have cC := remark_any 8 (.inr rfl) c w
    show Calls Tryd.prog 57 #[.int .i64 8, .string ⟨word.toArray⟩, .int .u8 (c.toNat : Int)] w fun e w' => e = .returned (.tuple #[.int .i64 (remarkB 8 c : Int), .string ⟨#[]⟩]) ∧ Below w.heap.size w w'
    generalize remarkB 8 c = m at cC ⊢
    have cC := hide cC
    go_enter Tryd.func57, Tryd.ntmps57
    go_wp2_with (go_at_call 87; refine (cC.out).mono ?_; rintro e w1 ⟨rfl, rfl⟩)
    go_ret2
    exact ⟨rfl, Below.refl _ _⟩
  · have cC := matched_any 9 (.inl rfl) c w
    show Calls Tryd.prog 57 #[.int .i64 9, .string ⟨word.toArray⟩, .int .u8 (c.toNat : Int)] w fun e w' => e = .returned (.tuple #[.int .i64 (matchedB 9 c : Int), .string ⟨#[]⟩]) ∧ Below w.heap.size w w'
    generalize matchedB 9 c = m at cC ⊢
    have cC := hide cC
    go_enter Tryd.func57, Tryd.ntmps57
    go_wp2_with (go_at_call 88; refine (cC.out).mono ?_; rintro e w1 ⟨rfl, rfl⟩)
    go_ret2
    exact ⟨rfl, Below.refl _ _⟩
  · show Calls Tryd.prog 57 #[.int .i64 10, .string ⟨word.toArray⟩, .int .u8 (c.toNat : Int)] w fun e w' => e = .returned (.tuple #[.int .i64 9, .string ⟨#[]⟩]) ∧ Below w.heap.size w w'
    clear cN
    go_enter Tryd.func57, Tryd.ntmps57
    go_wp2_with fail
    go_ret2
    exact ⟨rfl, Below.refl _ _⟩
  · have cC := matched_any 11 (.inr rfl) c w
    show Calls Tryd.prog 57 #[.int .i64 11, .string ⟨word.toArray⟩, .int .u8 (c.toNat : Int)] w fun e w' => e = .returned (.tuple #[.int .i64 (matchedB 11 c : Int), .string ⟨#[]⟩]) ∧ Below w.heap.size w w'
    generalize matchedB 11 c = m at cC ⊢
    have cC := hide cC
    go_enter Tryd.func57, Tryd.ntmps57
    go_wp2_with (go_at_call 88; refine (cC.out).mono ?_; rintro e w1 ⟨rfl, rfl⟩)
    go_ret2
    exact ⟨rfl, Below.refl _ _⟩
  · show Calls Tryd.prog 57 #[.int .i64 12, .string ⟨word.toArray⟩, .int .u8 (c.toNat : Int)] w fun e w' => e = .returned (.tuple #[.int .i64 11, .string ⟨#[]⟩]) ∧ Below w.heap.size w w'
    clear cN
    go_enter Tryd.func57, Tryd.ntmps57
    go_wp2_with fail
    go_ret2
    exact ⟨rfl, Below.refl _ _⟩
  · have cC := slashed_any 13 (.inl rfl) c w ht
    show Calls Tryd.prog 57 #[.int .i64 13, .string ⟨word.toArray⟩, .int .u8 (c.toNat : Int)] w fun e w' => e = .returned (.tuple #[.int .i64 ((slashedB 13 c).1 : Int), .string ⟨(slashedB 13 c).2.toArray⟩]) ∧ Below w.heap.size w w'
    generalize slashedB 13 c = m at cC ⊢
    obtain ⟨m1, m2⟩ := m
    have cC := hide cC
    go_enter Tryd.func57, Tryd.ntmps57
    go_wp2_with (go_at_call 89; refine (cC.out).mono ?_; rintro e w1 ⟨rfl, hb1⟩)
    go_ret2
    exact ⟨rfl, hb1⟩
  · have cC := slashed_any 14 (.inr rfl) c w ht
    show Calls Tryd.prog 57 #[.int .i64 14, .string ⟨word.toArray⟩, .int .u8 (c.toNat : Int)] w fun e w' => e = .returned (.tuple #[.int .i64 ((slashedB 14 c).1 : Int), .string ⟨(slashedB 14 c).2.toArray⟩]) ∧ Below w.heap.size w w'
    generalize slashedB 14 c = m at cC ⊢
    obtain ⟨m1, m2⟩ := m
    have cC := hide cC
    go_enter Tryd.func57, Tryd.ntmps57
    go_wp2_with (go_at_call 89; refine (cC.out).mono ?_; rintro e w1 ⟨rfl, hb1⟩)
    go_ret2
    exact ⟨rfl, hb1⟩
  · show Calls Tryd.prog 57 #[.int .i64 15, .string ⟨word.toArray⟩, .int .u8 (c.toNat : Int)] w fun e w' => e = .returned (.tuple #[.int .i64 15, .string ⟨#[]⟩]) ∧ Below w.heap.size w w'
    clear cN
    go_enter Tryd.func57, Tryd.ntmps57
    go_wp2_with fail
    go_ret2
    exact ⟨rfl, Below.refl _ _⟩
end Go.Proofs.YtdnmgpidfjkiaaaDoor

namespace Go.Proofs.YtdnmgpidfjkiaaaDoor
open Go.RowKit
set_option linter.unusedVariables false
set_option linter.unusedSimpArgs false

theorem feed_take (p : Pos) (s : List UInt8) (k : Nat) (c : UInt8) (h : s[k]? = some c) : feedB p (s.take (k + 1)) = stepB (feedB p (s.take k)) c := by
  rw [List.take_add_one, h, feedB_app]; rfl
set_option maxHeartbeats 2000000 in
set_option maxRecDepth 100000 in
theorem feed_any (p : Pos) (l : List UInt8) (w : World) (hp : p.1 ≤ 15) (hw : p.2.length ≤ 1048576) (hz : l.length ≤ 4611686018427387903) (ht : Lib.TabIs Tryd.prog w "strings.asciiSpace" .u8 Lib.asciiSpaceTab) :
    Calls Tryd.prog 32 #[.int .i64 (p.1 : Int), .string ⟨p.2.toArray⟩, .string ⟨l.toArray⟩] w fun e w' => e = .returned (.tuple #[.int .i64 ((feedB p l).1 : Int), .string ⟨(feedB p l).2.toArray⟩]) ∧ Below w.heap.size w w' := by
  obtain ⟨cap, W1, hcv, hrow, hbel, hlt, hcap⟩ := conv_bytes w ⟨l.toArray⟩
  have HR := hide (show ByteRow W1 w.heap.size l by simpa using hrow)
  have HT := hide ht
  clear hrow ht
  have hsz : (⟨l.toArray⟩ : ByteArray).size = l.length := mk_size l
  have hli : (l.length : Int) ≤ 4611686018427387903 := by omega
  rw [hsz] at hcv hcap
  go_enter Tryd.func32, Tryd.ntmps32
  go_wp2
  clear hcv
  go_loopw [0, 1, 13] (fun a b i wr => ∃ (k : Nat) (q : Pos), a = .int .i64 (q.1 : Int) ∧ b = .string ⟨q.2.toArray⟩ ∧ i = .int .i64 (k : Int) ∧ k ≤ l.length ∧ q.1 ≤ 15 ∧ q.2.length ≤ 1048576 ∧ Below W1.heap.size W1 wr ∧ Hid (q = feedB p (l.take k))) (fun _ _ i _ => l.length - (intOf i).toNat)
  case atStart => exact ⟨0, p, rfl, rfl, rfl, Nat.zero_le _, hp, hw, Below.refl _ _, rfl⟩
  case round =>
    obtain ⟨k, q, rfl, rfl, rfl, hk, hq1, hq2, hb, hrel⟩ := hrel
    by_cases hlt2 : k < l.length
    · obtain ⟨c, hc⟩ : ∃ c, l[k]? = some c := ⟨_, List.getElem?_eq_getElem hlt2⟩
      have hcell := (HR.out.below hb hlt).cell hc
      have HF := hide (show stepB q c = feedB p (l.take (k + 1)) by rw [feed_take p l k c hc, hrel.out])
      have hn := stepB_leW q c hq1 hq2
      have cS := step_any q c wr hq1 hq2 (tabs_below gSpace HT.out (hbel.trans (hb.mono (Nat.le_of_lt hlt))))
      generalize stepB q c = r at HF hn cS
      obtain ⟨r1, r2⟩ := r
      obtain ⟨q1, q2⟩ := q
      simp only at hn cS hq1 hq2
      have cS := hide cS
      have hki : (k : Int) < (l.length : Int) := by omega
      have hbz := hb.size
      clear hc hrel
      go_wp2_with (go_at_call 57; refine (cS.out).mono ?_; rintro e w2 ⟨rfl, hb2⟩)
      go_roundw
      case rel => exact ⟨k + 1, (r1, r2), rfl, rfl, by go_num, by omega, hn.1, hn.2, hb.trans (hb2.mono hbz), HF⟩
      case measure => simp [intOf]; omega
    · have hk2 : k = l.length := by omega
      have hqe : q = feedB p l := by rw [hrel.out, hk2, List.take_length]
      subst hqe
      have hge : decide ((k : Int) < (l.length : Int)) = false := by simp; omega
      have hBB := hbel.trans (hb.mono (Nat.le_of_lt hlt))
      clear hrel hk2
      go_wp2
      go_ret2
      exact ⟨rfl, hBB⟩
end Go.Proofs.YtdnmgpidfjkiaaaDoor
