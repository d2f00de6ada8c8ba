/-
  PLAIN LAWS of many texts, in one.
-/
import Derived.Test.YtdnmgpidfjkiaaaDoorFuncB
import Derived.Test.YtdnmgpidfjkiaaaDoorM1
import Derived.Test.YtdnmgpidfjkiaaaDoorVoid
namespace Go.Proofs.YtdnmgpidfjkiaaaDoor
open Go.RowKit
set_option linter.unusedVariables false
set_option linter.unusedSimpArgs false

theorem int_beq (x y : Nat) : (((x : Nat) : Int) == (y : Int)) = (x == y) := by
  rw [Bool.eq_iff_iff, beq_iff_eq, beq_iff_eq]; omega
theorem newlB_int (c : UInt8) : newlB c = (((c.toNat : Int) == 10) || ((c.toNat : Int) == 13)) :=
  eq_of_beq (allBytes (fun c => newlB c == (((c.toNat : Int) == 10) || ((c.toNat : Int) == 13))) (by decide +kernel) c)
theorem wordyB_int (c : UInt8) : wordyB c = (isLetter c || ((decide (48 ≤ (c.toNat : Int)) && decide ((c.toNat : Int) ≤ 57)) || (((c.toNat : Int) == 95) || (((c.toNat : Int) == 36) || decide (127 < (c.toNat : Int)))))) :=
  eq_of_beq (allBytes (fun c => wordyB c == (isLetter c || ((decide (48 ≤ (c.toNat : Int)) && decide ((c.toNat : Int) ≤ 57)) || (((c.toNat : Int) == 95) || (((c.toNat : Int) == 36) || decide (127 < (c.toNat : Int))))))) (by decide +kernel) c)
theorem eq_int (c : UInt8) (n : Nat) (d : UInt8) (h : d.toNat = n) : (c == d) = ((c.toNat : Int) == (n : Int)) := by
  rw [Bool.eq_iff_iff, beq_iff_eq, beq_iff_eq]
  constructor
  · rintro rfl; omega
  · intro h2; apply UInt8.toNat_inj.1; omega
set_option maxHeartbeats 400000 in
set_option maxRecDepth 100000 in
theorem newl_any (c : UInt8) (w : World) : Calls Tryd.prog 86 #[.int .u8 (c.toNat : Int)] w fun e w' => e = .returned (.bool (newlB c)) ∧ w = w' := by
  rw [newlB_int]
  rcases Bool.eq_false_or_eq_true ((c.toNat : Int) == 10) with g | g
  · rw [g]
    go_enter Tryd.func86, Tryd.ntmps86
    go_wp2_with fail
    go_ret
    exact ⟨rfl, rfl⟩
  · rw [g]
    go_enter Tryd.func86, Tryd.ntmps86
    go_wp2_with fail
    go_ret
    exact ⟨rfl, rfl⟩
set_option maxHeartbeats 1000000 in
set_option maxRecDepth 100000 in
theorem wordy_any (c : UInt8) (w : World) : Calls Tryd.prog 111 #[.int .u8 (c.toNat : Int)] w fun e w' => e = .returned (.bool (wordyB c)) ∧ w = w' := by
  have cL := letter_any c w
  rw [wordyB_int]
  generalize isLetter c = b1 at cL ⊢
  have cL := hide cL
  cases b1
  rotate_left
  · go_enter Tryd.func111, Tryd.ntmps111
    go_wp2_with (go_at_call 95; refine (cL.out).mono ?_; rintro e w1 ⟨rfl, rfl⟩)
    go_ret
    exact ⟨rfl, rfl⟩
  · rcases Bool.eq_false_or_eq_true (decide (48 ≤ (c.toNat : Int))) with g1 | g1
    · rcases Bool.eq_false_or_eq_true (decide ((c.toNat : Int) ≤ 57)) with g2 | g2
      · rw [g1, g2]
        go_enter Tryd.func111, Tryd.ntmps111
        go_wp2_with (go_at_call 95; refine (cL.out).mono ?_; rintro e w1 ⟨rfl, rfl⟩)
        go_ret
        exact ⟨rfl, rfl⟩
      · have g3 : ((c.toNat : Int) == 36) = false := by simp at g2 ⊢; omega
        rw [g1, g2, g3]
        rcases Bool.eq_false_or_eq_true ((c.toNat : Int) == 95) with g4 | g4
        · rw [g4]
          go_enter Tryd.func111, Tryd.ntmps111
          go_wp2_with (go_at_call 95; refine (cL.out).mono ?_; rintro e w1 ⟨rfl, rfl⟩)
          go_ret
          exact ⟨rfl, rfl⟩
        · rw [g4]
          go_enter Tryd.func111, Tryd.ntmps111
          go_wp2_with (go_at_call 95; refine (cL.out).mono ?_; rintro e w1 ⟨rfl, rfl⟩)
          go_ret
          exact ⟨rfl, rfl⟩
    · have g3 : ((c.toNat : Int) == 95) = false := by simp at g1 ⊢; omega
      have g5 : decide (127 < (c.toNat : Int)) = false := by simp at g1 ⊢; omega
      rw [g1, g3, g5]
      rcases Bool.eq_false_or_eq_true ((c.toNat : Int) == 36) with g4 | g4
      · rw [g4]
        go_enter Tryd.func111, Tryd.ntmps111
        go_wp2_with (go_at_call 95; refine (cL.out).mono ?_; rintro e w1 ⟨rfl, rfl⟩)
        go_ret
        exact ⟨rfl, rfl⟩
      · rw [g4]
        go_enter Tryd.func111, Tryd.ntmps111
        go_wp2_with (go_at_call 95; refine (cL.out).mono ?_; rintro e w1 ⟨rfl, rfl⟩)
        go_ret
        exact ⟨rfl, rfl⟩
set_option maxHeartbeats 2000000 in
set_option maxRecDepth 100000 in
theorem quoted_any (part : Nat) (hp : part = 2 ∨ part = 3) (c : UInt8) (w : World) : Calls Tryd.prog 85 #[.int .i64 (part : Int), .int .u8 (c.toNat : Int)] w fun e w' => e = .returned (.int .i64 (quotedB part c : Int)) ∧ w = w' := by
  have cN := newl_any c w
  have e34 := eq_int c 34 34 rfl
  have e39 := eq_int c 39 39 rfl
  have e92 := eq_int c 92 92 rfl
  rcases hp with rfl | rfl
  · have hq : quotedB 2 c = (if c == 34 then 1 else if c == 92 then 4 else if newlB c then 15 else 2) := rfl
    rw [hq, e34, e92]
    generalize newlB c = b at cN ⊢
    have cN := hide cN
    clear e34 e39 e92 hq
    rcases Bool.eq_false_or_eq_true ((c.toNat : Int) == (34 : Nat)) with g1 | g1
    · have g1' : ((c.toNat : Int) == 34) = true := g1
      rw [g1]
      go_enter Tryd.func85, Tryd.ntmps85
      go_wp2_with fail
      go_ret
      exact ⟨rfl, rfl⟩
    · have g1' : ((c.toNat : Int) == 34) = false := g1
      rw [g1]
      rcases Bool.eq_false_or_eq_true ((c.toNat : Int) == (92 : Nat)) with g2 | g2
      · have g2' : ((c.toNat : Int) == 92) = true := g2
        rw [g2]
        go_enter Tryd.func85, Tryd.ntmps85
        go_wp2_with fail
        go_ret
        exact ⟨rfl, rfl⟩
      · have g2' : ((c.toNat : Int) == 92) = false := g2
        rw [g2]
        cases b
        · go_enter Tryd.func85, Tryd.ntmps85
          go_wp2_with (go_at_call 86; refine (cN.out).mono ?_; rintro e w1 ⟨rfl, rfl⟩)
          go_ret
          exact ⟨rfl, rfl⟩
        · go_enter Tryd.func85, Tryd.ntmps85
          go_wp2_with (go_at_call 86; refine (cN.out).mono ?_; rintro e w1 ⟨rfl, rfl⟩)
          go_ret
          exact ⟨rfl, rfl⟩
  · have hq : quotedB 3 c = (if c == 39 then 1 else if c == 92 then 5 else if newlB c then 15 else 3) := rfl
    rw [hq, e39, e92]
    generalize newlB c = b at cN ⊢
    have cN := hide cN
    clear e34 e39 e92 hq
    rcases Bool.eq_false_or_eq_true ((c.toNat : Int) == (39 : Nat)) with g1 | g1
    · have g1' : ((c.toNat : Int) == 39) = true := g1
      rw [g1]
      go_enter Tryd.func85, Tryd.ntmps85
      go_wp2_with fail
      go_ret
      exact ⟨rfl, rfl⟩
    · have g1' : ((c.toNat : Int) == 39) = false := g1
      rw [g1]
      rcases Bool.eq_false_or_eq_true ((c.toNat : Int) == (92 : Nat)) with g2 | g2
      · have g2' : ((c.toNat : Int) == 92) = true := g2
        rw [g2]
        go_enter Tryd.func85, Tryd.ntmps85
        go_wp2_with fail
        go_ret
        exact ⟨rfl, rfl⟩
      · have g2' : ((c.toNat : Int) == 92) = false := g2
        rw [g2]
        cases b
        · go_enter Tryd.func85, Tryd.ntmps85
          go_wp2_with (go_at_call 86; refine (cN.out).mono ?_; rintro e w1 ⟨rfl, rfl⟩)
          go_ret
          exact ⟨rfl, rfl⟩
        · go_enter Tryd.func85, Tryd.ntmps85
          go_wp2_with (go_at_call 86; refine (cN.out).mono ?_; rintro e w1 ⟨rfl, rfl⟩)
          go_ret
          exact ⟨rfl, rfl⟩
set_option maxHeartbeats 2000000 in
set_option maxRecDepth 100000 in
theorem matched_any (part : Nat) (hp : part = 9 ∨ part = 11) (c : UInt8) (w : World) : Calls Tryd.prog 88 #[.int .i64 (part : Int), .int .u8 (c.toNat : Int)] w fun e w' => e = .returned (.int .i64 (matchedB part c : Int)) ∧ w = w' := by
  have cN := newl_any c w
  have e47 := eq_int c 47 47 rfl
  have e91 := eq_int c 91 91 rfl
  have e92 := eq_int c 92 92 rfl
  have e93 := eq_int c 93 93 rfl
  rcases hp with rfl | rfl
  · have hq : matchedB 9 c = (if newlB c then 15 else if c == 92 then 10 else if c == 47 then 1 else if c == 91 then 11 else 9) := by
      unfold matchedB; simp
    rw [hq, e47, e91, e92]
    generalize newlB c = b at cN ⊢
    have cN := hide cN
    clear e47 e91 e92 e93 hq
    cases b
    rotate_left
    · go_enter Tryd.func88, Tryd.ntmps88
      go_wp2_with (go_at_call 86; refine (cN.out).mono ?_; rintro e w1 ⟨rfl, rfl⟩)
      go_ret
      exact ⟨rfl, rfl⟩
    · rcases Bool.eq_false_or_eq_true ((c.toNat : Int) == (92 : Nat)) with g1 | g1
      · have g1' : ((c.toNat : Int) == 92) = true := g1
        rw [g1]
        go_enter Tryd.func88, Tryd.ntmps88
        go_wp2_with (go_at_call 86; refine (cN.out).mono ?_; rintro e w1 ⟨rfl, rfl⟩)
        go_ret
        exact ⟨rfl, rfl⟩
      · have g1' : ((c.toNat : Int) == 92) = false := g1
        rw [g1]
        rcases Bool.eq_false_or_eq_true ((c.toNat : Int) == (47 : Nat)) with g2 | g2
        · have g2' : ((c.toNat : Int) == 47) = true := g2
          rw [g2]
          go_enter Tryd.func88, Tryd.ntmps88
          go_wp2_with (go_at_call 86; refine (cN.out).mono ?_; rintro e w1 ⟨rfl, rfl⟩)
          go_ret
          exact ⟨rfl, rfl⟩
        · have g2' : ((c.toNat : Int) == 47) = false := g2
          rw [g2]
          rcases Bool.eq_false_or_eq_true ((c.toNat : Int) == (91 : Nat)) with g3 | g3
          · have g3' : ((c.toNat : Int) == 91) = true := g3
            rw [g3]
            go_enter Tryd.func88, Tryd.ntmps88
            go_wp2_with (go_at_call 86; refine (cN.out).mono ?_; rintro e w1 ⟨rfl, rfl⟩)
            go_ret
            exact ⟨rfl, rfl⟩
          · have g3' : ((c.toNat : Int) == 91) = false := g3
            rw [g3]
            go_enter Tryd.func88, Tryd.ntmps88
            go_wp2_with (go_at_call 86; refine (cN.out).mono ?_; rintro e w1 ⟨rfl, rfl⟩)
            go_ret
            exact ⟨rfl, rfl⟩
  · have hq : matchedB 11 c = (if newlB c then 15 else if c == 92 then 12 else if c == 93 then 9 else 11) := by
      unfold matchedB; simp
    rw [hq, e92, e93]
    generalize newlB c = b at cN ⊢
    have cN := hide cN
    clear e47 e91 e92 e93 hq
    cases b
    rotate_left
    · go_enter Tryd.func88, Tryd.ntmps88
      go_wp2_with (go_at_call 86; refine (cN.out).mono ?_; rintro e w1 ⟨rfl, rfl⟩)
      go_ret
      exact ⟨rfl, rfl⟩
    · rcases Bool.eq_false_or_eq_true ((c.toNat : Int) == (92 : Nat)) with g1 | g1
      · have g1' : ((c.toNat : Int) == 92) = true := g1
        rw [g1]
        go_enter Tryd.func88, Tryd.ntmps88
        go_wp2_with (go_at_call 86; refine (cN.out).mono ?_; rintro e w1 ⟨rfl, rfl⟩)
        go_ret
        exact ⟨rfl, rfl⟩
      · have g1' : ((c.toNat : Int) == 92) = false := g1
        rw [g1]
        rcases Bool.eq_false_or_eq_true ((c.toNat : Int) == (93 : Nat)) with g2 | g2
        · have g2' : ((c.toNat : Int) == 93) = true := g2
          rw [g2]
          go_enter Tryd.func88, Tryd.ntmps88
          go_wp2_with (go_at_call 86; refine (cN.out).mono ?_; rintro e w1 ⟨rfl, rfl⟩)
          go_ret
          exact ⟨rfl, rfl⟩
        · have g2' : ((c.toNat : Int) == 93) = false := g2
          rw [g2]
          go_enter Tryd.func88, Tryd.ntmps88
          go_wp2_with (go_at_call 86; refine (cN.out).mono ?_; rintro e w1 ⟨rfl, rfl⟩)
          go_ret
          exact ⟨rfl, rfl⟩
set_option maxHeartbeats 2000000 in
set_option maxRecDepth 100000 in
theorem remark_any (part : Nat) (hp : part = 7 ∨ part = 8) (c : UInt8) (w : World) : Calls Tryd.prog 87 #[.int .i64 (part : Int), .int .u8 (c.toNat : Int)] w fun e w' => e = .returned (.int .i64 (remarkB part c : Int)) ∧ w = w' := by
  have e42 := eq_int c 42 42 rfl
  have e47 := eq_int c 47 47 rfl
  rcases Bool.eq_false_or_eq_true ((c.toNat : Int) == (42 : Nat)) with g1 | g1
  · have g1' : ((c.toNat : Int) == 42) = true := g1
    have hq : remarkB part c = 8 := by unfold remarkB; rw [e42, g1]; rfl
    rw [hq]
    clear e42 e47 hq
    rcases hp with rfl | rfl
    · go_enter Tryd.func87, Tryd.ntmps87
      go_wp2_with fail
      go_ret
      exact ⟨rfl, rfl⟩
    · go_enter Tryd.func87, Tryd.ntmps87
      go_wp2_with fail
      go_ret
      exact ⟨rfl, rfl⟩
  · have g1' : ((c.toNat : Int) == 42) = false := g1
    rcases hp with rfl | rfl
    · have hq : remarkB 7 c = 7 := by unfold remarkB; rw [e42, g1]; rfl
      rw [hq]
      clear e42 e47 hq
      go_enter Tryd.func87, Tryd.ntmps87
      go_wp2_with fail
      go_ret
      exact ⟨rfl, rfl⟩
    · have hq : remarkB 8 c = if (c.toNat : Int) == (47 : Nat) then 0 else 7 := by unfold remarkB; rw [e42, g1, e47]; simp
      rw [hq]
      clear e42 e47 hq
      rcases Bool.eq_false_or_eq_true ((c.toNat : Int) == (47 : Nat)) with g2 | g2
      · have g2' : ((c.toNat : Int) == 47) = true := g2
        rw [g2]
        go_enter Tryd.func87, Tryd.ntmps87
        go_wp2_with fail
        go_ret
        exact ⟨rfl, rfl⟩
      · have g2' : ((c.toNat : Int) == 47) = false := g2
        rw [g2]
        go_enter Tryd.func87, Tryd.ntmps87
        go_wp2_with fail
        go_ret
        exact ⟨rfl, rfl⟩
end Go.Proofs.YtdnmgpidfjkiaaaDoor

namespace Go.Proofs.YtdnmgpidfjkiaaaDoor
open Go.RowKit
set_option linter.unusedVariables false
set_option linter.unusedSimpArgs false

/-- The words behind which a value may come, as the program holds them. -/
def wordsT : List ByteArray := [⟨#[114, 101, 116, 117, 114, 110]⟩, ⟨#[116, 121, 112, 101, 111, 102]⟩, ⟨#[99, 97, 115, 101]⟩, ⟨#[105, 110]⟩, ⟨#[111, 102]⟩, ⟨#[100, 101, 108, 101, 116, 101]⟩, ⟨#[118, 111, 105, 100]⟩, ⟨#[116, 104, 114, 111, 119]⟩, ⟨#[110, 101, 119]⟩, ⟨#[101, 108, 115, 101]⟩, ⟨#[100, 111]⟩, ⟨#[105, 110, 115, 116, 97, 110, 99, 101, 111, 102]⟩]
theorem words_any (w : List UInt8) : (wordsT.any fun v => v.toList == (ByteArray.mk w.toArray).toList) = wordsL.any (· == w) := by
  have e : ∀ l : List UInt8, (ByteArray.mk l.toArray).toList = l := fun l => by rw [ByteArray.toList_eq]
  have h : wordsT = wordsL.map fun l => ⟨l.toArray⟩ := rfl
  rw [h, List.any_map]
  congr 1
  funext l
  simp only [Function.comp, e]
theorem fields_words (w : World) (htab : Lib.TabIs Tryd.prog w "strings.asciiSpace" .u8 Lib.asciiSpaceTab) (r : Nat) (hr : r = w.heap.size) :
    Calls Tryd.prog 138 #[.string ⟨#[114, 101, 116, 117, 114, 110, 32, 116, 121, 112, 101, 111, 102, 32, 99, 97, 115, 101, 32, 105, 110, 32, 111, 102, 32, 100, 101, 108, 101, 116, 101, 32, 118, 111, 105, 100, 32, 116, 104, 114, 111, 119, 32, 110, 101, 119, 32, 101, 108, 115, 101, 32, 100, 111, 32, 105, 110, 115, 116, 97, 110, 99, 101, 111, 102]⟩] w fun e w' => e = .returned (.slice (some ⟨r, 0, none⟩) 12 12) ∧ w' = w.alloc (.cells (wordsT.map Value.string).toArray 9) := by
  subst hr
  have h := Tryd.strings_Fields ⟨#[114, 101, 116, 117, 114, 110, 32, 116, 121, 112, 101, 111, 102, 32, 99, 97, 115, 101, 32, 105, 110, 32, 111, 102, 32, 100, 101, 108, 101, 116, 101, 32, 118, 111, 105, 100, 32, 116, 104, 114, 111, 119, 32, 110, 101, 119, 32, 101, 108, 115, 101, 32, 100, 111, 32, 105, 110, 115, 116, 97, 110, 99, 101, 111, 102]⟩ w (by decide) (fun j b hj => by
    have h1 : ((⟨#[114, 101, 116, 117, 114, 110, 32, 116, 121, 112, 101, 111, 102, 32, 99, 97, 115, 101, 32, 105, 110, 32, 111, 102, 32, 100, 101, 108, 101, 116, 101, 32, 118, 111, 105, 100, 32, 116, 104, 114, 111, 119, 32, 110, 101, 119, 32, 101, 108, 115, 101, 32, 100, 111, 32, 105, 110, 115, 116, 97, 110, 99, 101, 111, 102]⟩ : ByteArray).data.toList.all fun b => decide (b.toNat < 128)) = true := by decide +kernel
    simpa using List.all_eq_true.1 h1 b (List.mem_of_getElem? hj)) htab
  rw [show Lib.fields (⟨#[114, 101, 116, 117, 114, 110, 32, 116, 121, 112, 101, 111, 102, 32, 99, 97, 115, 101, 32, 105, 110, 32, 111, 102, 32, 100, 101, 108, 101, 116, 101, 32, 118, 111, 105, 100, 32, 116, 104, 114, 111, 119, 32, 110, 101, 119, 32, 101, 108, 115, 101, 32, 100, 111, 32, 105, 110, 115, 116, 97, 110, 99, 101, 111, 102]⟩ : ByteArray).data.toList = [[114, 101, 116, 117, 114, 110], [116, 121, 112, 101, 111, 102], [99, 97, 115, 101], [105, 110], [111, 102], [100, 101, 108, 101, 116, 101], [118, 111, 105, 100], [116, 104, 114, 111, 119], [110, 101, 119], [101, 108, 115, 101], [100, 111], [105, 110, 115, 116, 97, 110, 99, 101, 111, 102]] by decide +kernel] at h
  exact h
set_option maxHeartbeats 400000 in
theorem ended1 (v s : ByteArray) (lb : Nat) (w : World) (hl : w.cell? ⟨lb, 0, none⟩ = some (.string s)) :
    Calls Tryd.prog 141 #[.string v, .pointer (some ⟨lb, 0, none⟩)] w fun e w' => e = .returned (.bool (v.toList == s.toList)) ∧ Below w.heap.size w w' := by
  go_enter Tryd.func141, Tryd.ntmps141
  go_wp2_with fail
  (try (go_quiet (fail); go_wp2_with fail))
  go_ret
  exact ⟨rfl, by first | exact Below.refl _ _ | exact below_drewN (Below.refl _ _) _⟩
set_option maxHeartbeats 1000000 in
set_option maxRecDepth 100000 in
theorem ended_any (part : Nat) (word : List UInt8) (w : World) (htab : Lib.TabIs Tryd.prog w "strings.asciiSpace" .u8 Lib.asciiSpaceTab) :
    Calls Tryd.prog 112 #[.int .i64 (part : Int), .string ⟨word.toArray⟩] w fun e w' => e = .returned (.int .i64 (endedB part word : Int)) ∧ Below w.heap.size w w' := by
  by_cases h0 : word = []
  · subst h0
    have : endedB part [] = part := rfl
    rw [this]
    clear this
    have hB := (Below.refl w.heap.size w).alloc (Nat.le_refl _) (.cells #[.string ⟨#[]⟩] 9)
    go_enter Tryd.func112, Tryd.ntmps112
    go_wp2_with fail
    go_ret
    exact ⟨rfl, hB⟩
  · have he : endedB part word = if wordsL.any (· == word) then 0 else part := by
      unfold endedB
      have : (word == []) = false := by simpa using h0
      rw [this]; rfl
    rw [he, ← words_any]
    clear he
    obtain ⟨s, hsw⟩ : ∃ s : ByteArray, (⟨word.toArray⟩ : ByteArray) = s := ⟨_, rfl⟩
    have hne : s.toList.isEmpty = false := by rw [← hsw, ByteArray.toList_eq]; simpa using h0
    rw [hsw]
    clear hsw h0
    obtain ⟨b, hb⟩ : ∃ b, (wordsT.any fun v => v.toList == s.toList) = b := ⟨_, rfl⟩
    rw [hb]
    have HB := hide hb
    clear hb
    have hl0 := (Blk.new w 9 #[.string s]).cell 0
    simp at hl0
    go_enter Tryd.func112, Tryd.ntmps112
    go_wp2_with fail
    refine (fields_words _ (tabs_below gSpace htab ((Below.refl _ _).alloc (Nat.le_refl _) _)) (w.heap.size + 1) (by simp)).mono ?_
    rintro e w1 ⟨rfl, rfl⟩
    have hL := (Blk.new w 9 #[.string s]).alloc (.cells (wordsT.map Value.string).toArray 9)
    have hR : TxtRow ((w.alloc (.cells #[.string s] 9)).alloc (.cells (wordsT.map Value.string).toArray 9)) (w.heap.size + 1) wordsT := by
      have := Blk.new (w.alloc (.cells #[.string s] 9)) 9 (wordsT.map Value.string).toArray
      exact TxtRow.blk (by simpa using this)
    obtain ⟨W, hW⟩ : ∃ W, (w.alloc (.cells #[.string s] 9)).alloc (.cells (wordsT.map Value.string).toArray 9) = W := ⟨_, rfl⟩
    have hs : W.heap.size = w.heap.size + 2 := by rw [← hW]; simp
    have hB : Below w.heap.size w W := by rw [← hW]; exact ((Below.refl _ _).alloc (Nat.le_refl _) _).alloc (by simp) _
    rw [hW] at hL hR ⊢
    clear hW
    have hP : PredT Tryd.prog 141 #[.pointer (some ⟨w.heap.size, 0, none⟩)] (fun v => v.toList == s.toList) W := fun W2 x h2 =>
      ended1 x s w.heap.size W2 (by rw [h2.cell (p := ⟨w.heap.size, 0, none⟩) (by simp; omega), hL.cell]; rfl)
    have cC := hide (containsFuncT 141 #[.pointer (some ⟨w.heap.size, 0, none⟩)] (fun _ _ => rfl) _ wordsT (w.heap.size + 1) 12 12 W hP hR (by omega) rfl (by omega))
    rw [HB.out] at cC
    clear hP hR hL hl0
    cases b
    · go_wp2_with (go_at_call 140; refine (cC.out).mono ?_; rintro e w2 ⟨rfl, hb2⟩)
      go_ret
      exact ⟨rfl, hB.trans (hb2.mono (by omega))⟩
    · go_wp2_with (go_at_call 140; refine (cC.out).mono ?_; rintro e w2 ⟨rfl, hb2⟩)
      go_ret
      exact ⟨rfl, hB.trans (hb2.mono (by omega))⟩
end Go.Proofs.YtdnmgpidfjkiaaaDoor
