/-
  The page's machine of scripts: keyword, code, Script, Feed.
-/
import Derived.Test.YtdnmgpidfjkiaaaDoorRefChr
import Derived.Test.YtdnmgpidfjkiaaaDoorLexH
import Derived.Test.YtdnmgpidfjkiaaaDoorM7
import Derived.Test.YtdnmgpidfjkiaaaDoorM5
import Derived.Test.YtdnmgpidfjkiaaaDoorStr
namespace Go.Proofs.YtdnmgpidfjkiaaaDoor
open Go.RowKit
set_option linter.unusedVariables false
set_option linter.unusedSimpArgs false

theorem toL_eqK (s t : List UInt8) : ((⟨s.toArray⟩ : ByteArray).toList == (⟨t.toArray⟩ : ByteArray).toList) = (s == t) := by
  rw [ByteArray.toList_eq, ByteArray.toList_eq]
theorem ret_pos14 {a b : Nat} {x : List UInt8} (h : a = b) : Ending.returned (.tuple #[.int .i64 (a : Int), .string ⟨x.toArray⟩]) = .returned (.tuple #[.int .i64 (b : Int), .string ⟨x.toArray⟩]) := by rw [h]
set_option maxHeartbeats 2000000 in
set_option maxRecDepth 100000 in
theorem keyword_any (s : List UInt8) (w : World) : Calls Tryd.prog 107 #[.string ⟨s.toArray⟩] w fun e w' => e = .returned (.bool (wordsL.any (· == s))) ∧ Below w.heap.size w w' := by
  have hst := hide (fun x => toL_eqK x s)
  obtain ⟨S, hS⟩ : ∃ S : ByteArray, (⟨s.toArray⟩ : ByteArray) = S := ⟨_, rfl⟩
  have hyes : ∀ j x, wordsL[j]? = some x → (x == s) = true → wordsL.any (· == s) = true := fun j x h1 h2 => List.any_eq_true.2 ⟨x, List.mem_of_getElem? h1, h2⟩
  have hno : (∀ j x, j < 12 → wordsL[j]? = some x → (x == s) = false) → wordsL.any (· == s) = false := fun h => by
    rw [List.any_eq_false]
    intro x hx
    obtain ⟨j, hj, e⟩ := List.getElem_of_mem hx
    have := h j x hj (by rw [List.getElem?_eq_getElem hj, e])
    simp [this]
  obtain ⟨R, hR⟩ : ∃ R, wordsL.any (· == s) = R := ⟨_, rfl⟩
  rw [hR] at hyes hno ⊢
  rw [hS] at hst ⊢
  have hB0 := (Below.refl w.heap.size w).alloc (Nat.le_refl _) (.cells #[.string ⟨#[114, 101, 116, 117, 114, 110]⟩, .string ⟨#[116, 121, 112, 101, 111, 102]⟩, .string ⟨#[99, 97, 115, 101]⟩, .string ⟨#[105, 110]⟩, .string ⟨#[111, 102]⟩, .string ⟨#[100, 101, 108, 101, 116, 101]⟩, .string ⟨#[118, 111, 105, 100]⟩, .string ⟨#[116, 104, 114, 111, 119]⟩, .string ⟨#[110, 101, 119]⟩, .string ⟨#[101, 108, 115, 101]⟩, .string ⟨#[100, 111]⟩, .string ⟨#[105, 110, 115, 116, 97, 110, 99, 101, 111, 102]⟩] 9)
  have hK0 := Blk.new w 9 #[.string ⟨#[114, 101, 116, 117, 114, 110]⟩, .string ⟨#[116, 121, 112, 101, 111, 102]⟩, .string ⟨#[99, 97, 115, 101]⟩, .string ⟨#[105, 110]⟩, .string ⟨#[111, 102]⟩, .string ⟨#[100, 101, 108, 101, 116, 101]⟩, .string ⟨#[118, 111, 105, 100]⟩, .string ⟨#[116, 104, 114, 111, 119]⟩, .string ⟨#[110, 101, 119]⟩, .string ⟨#[101, 108, 115, 101]⟩, .string ⟨#[100, 111]⟩, .string ⟨#[105, 110, 115, 116, 97, 110, 99, 101, 111, 102]⟩]
  have hcells : ∀ j x, wordsL[j]? = some x → (w.alloc (.cells #[.string ⟨#[114, 101, 116, 117, 114, 110]⟩, .string ⟨#[116, 121, 112, 101, 111, 102]⟩, .string ⟨#[99, 97, 115, 101]⟩, .string ⟨#[105, 110]⟩, .string ⟨#[111, 102]⟩, .string ⟨#[100, 101, 108, 101, 116, 101]⟩, .string ⟨#[118, 111, 105, 100]⟩, .string ⟨#[116, 104, 114, 111, 119]⟩, .string ⟨#[110, 101, 119]⟩, .string ⟨#[101, 108, 115, 101]⟩, .string ⟨#[100, 111]⟩, .string ⟨#[105, 110, 115, 116, 97, 110, 99, 101, 111, 102]⟩] 9)).cell? ⟨w.heap.size, j, none⟩ = some (.string ⟨x.toArray⟩) := by
    intro j x hx
    have h := hK0.cell j
    have ha : (#[.string ⟨#[114, 101, 116, 117, 114, 110]⟩, .string ⟨#[116, 121, 112, 101, 111, 102]⟩, .string ⟨#[99, 97, 115, 101]⟩, .string ⟨#[105, 110]⟩, .string ⟨#[111, 102]⟩, .string ⟨#[100, 101, 108, 101, 116, 101]⟩, .string ⟨#[118, 111, 105, 100]⟩, .string ⟨#[116, 104, 114, 111, 119]⟩, .string ⟨#[110, 101, 119]⟩, .string ⟨#[101, 108, 115, 101]⟩, .string ⟨#[100, 111]⟩, .string ⟨#[105, 110, 115, 116, 97, 110, 99, 101, 111, 102]⟩] : Array Value) = (wordsL.map fun l => Value.string ⟨l.toArray⟩).toArray := rfl
    rw [ha] at h
    rw [List.getElem?_toArray, List.getElem?_map, hx] at h
    exact h
  have hlt := hK0.lt
  clear hK0
  obtain ⟨W, hW⟩ : ∃ W, w.alloc (.cells #[.string ⟨#[114, 101, 116, 117, 114, 110]⟩, .string ⟨#[116, 121, 112, 101, 111, 102]⟩, .string ⟨#[99, 97, 115, 101]⟩, .string ⟨#[105, 110]⟩, .string ⟨#[111, 102]⟩, .string ⟨#[100, 101, 108, 101, 116, 101]⟩, .string ⟨#[118, 111, 105, 100]⟩, .string ⟨#[116, 104, 114, 111, 119]⟩, .string ⟨#[110, 101, 119]⟩, .string ⟨#[101, 108, 115, 101]⟩, .string ⟨#[100, 111]⟩, .string ⟨#[105, 110, 115, 116, 97, 110, 99, 101, 111, 102]⟩] 9) = W := ⟨_, rfl⟩
  rw [hW] at hB0 hcells hlt
  have HW := hide hW; have HB := hide hB0; have HC := hide hcells; have HY := hide hyes; have HN := hide hno
  clear hW hB0 hcells hyes hno hR hS
  go_enter Tryd.func107, Tryd.ntmps107
  go_wp2_with fail
  rw [HW.out]
  go_wp2_with fail
  go_loopw [4] (fun i wr => ∃ j : Nat, i = .int .i64 (j : Int) ∧ j ≤ 12 ∧ Below W.heap.size W wr ∧ Hid (∀ r x, r < j → wordsL[r]? = some x → (x == s) = false)) (fun i _ => 12 - (intOf i).toNat)
  case atStart => exact ⟨0, rfl, by omega, Below.refl _ _, fun r x h => absurd h (Nat.not_lt_zero _)⟩
  case round =>
    obtain ⟨j, rfl, hj, hb, hall⟩ := hrel
    by_cases hjl : j < 12
    · obtain ⟨x, hx⟩ : ∃ x, wordsL[j]? = some x := ⟨_, List.getElem?_eq_getElem (show j < wordsL.length from hjl)⟩
      have f1 := (hb.cell (p := ⟨w.heap.size, j, none⟩) hlt).trans (HC.out j x hx)
      have hltr : w.heap.size < wr.heap.size := Nat.lt_of_lt_of_le hlt hb.size
      have hji : (j : Int) < 12 := by omega
      have hxt := hst.out x
      obtain ⟨Z, hZ⟩ : ∃ Z : ByteArray, (⟨x.toArray⟩ : ByteArray) = Z := ⟨_, rfl⟩
      rw [hZ] at hxt f1
      rcases Bool.eq_false_or_eq_true (x == s) with gx | gx
      · rw [gx] at hxt
        have hF := hide (HY.out j x hx gx)
        clear hall hx hZ gx
        go_wp2_with fail
        go_ret
        exact ⟨ret_bool hF.out.symm, below_step HB.out hb⟩
      · rw [gx] at hxt
        have hnx : Hid (∀ r x, r < j + 1 → wordsL[r]? = some x → (x == s) = false) := by
          intro r y hr hy
          rcases Nat.lt_or_ge r j with h | h
          · exact hall.out r y h hy
          · obtain rfl : r = j := by omega
            rw [hx] at hy
            injection hy with hy
            rw [← hy]; exact gx
        clear hall hx hZ gx
        go_wp2_with fail
        go_roundw
        case rel => exact ⟨j + 1, by go_num, by omega, hb, hnx⟩
        case measure => simp [intOf]; omega
    · obtain rfl : j = 12 := by omega
      have hF := hide (HN.out (fun r x h => hall.out r x h))
      clear hall
      go_wp2_with fail
      go_ret
      exact ⟨ret_bool hF.out.symm, below_step HB.out hb⟩
theorem wordy_parts (c : UInt8) : wordyB c = (isLetter c || (isDig c || (((c.toNat : Int) == 95) || (((c.toNat : Int) == 36) || decide (127 < (c.toNat : Int)))))) :=
  eq_of_beq (allBytes (fun c => wordyB c == (isLetter c || (isDig c || (((c.toNat : Int) == 95) || (((c.toNat : Int) == 36) || decide (127 < (c.toNat : Int))))))) (by decide +kernel) c)
theorem ended14 (p : Nat) (word : List UInt8) : endedB p word = if wordsL.any (· == word) then 0 else p := by
  unfold endedB
  cases word with
  | nil => rfl
  | cons c r => rfl
set_option maxHeartbeats 4000000 in
set_option maxRecDepth 100000 in
theorem code14_any (p : Nat) (word : List UInt8) (c : UInt8) (w : World) (hp : p = 0 ∨ p = 1) (hw : word.length ≤ 16) :
    Calls Tryd.prog 78 #[.int .i64 (p : Int), .string ⟨word.toArray⟩, .int .u8 (c.toNat : Int)] w fun e w' => e = .returned (.tuple #[.int .i64 ((codeB p word c).1 : Int), .string ⟨(codeB p word c).2.toArray⟩]) ∧ Below w.heap.size w w' := by
  have cL := hide (fun w => refLet_any c w)
  have cD := hide (fun w => refDig_any c w)
  have hc1 : wordyB c = true → codeB p word c = (1, if word.length < 16 then word ++ [c] else word) := fun h => by unfold codeB; rw [if_pos h]
  have hc2 : wordyB c = false → codeB p word c = (signB (endedB p word) c, []) := fun h => by unfold codeB; rw [if_neg (by simp [h])]
  have hwp := wordy_parts c
  generalize isLetter c = b1 at cL hwp
  generalize isDig c = b2 at cD hwp
  rcases Bool.eq_false_or_eq_true (wordyB c) with hb | hb
  · rw [hc1 hb]
    rw [hb] at hwp
    have hcase : (b1 = true) ∨ (b1 = false ∧ b2 = true) ∨ (b1 = false ∧ b2 = false ∧ ((c.toNat : Int) == 95) = true) ∨ (b1 = false ∧ b2 = false ∧ ((c.toNat : Int) == 95) = false ∧ ((c.toNat : Int) == 36) = true) ∨ (b1 = false ∧ b2 = false ∧ ((c.toNat : Int) == 95) = false ∧ ((c.toNat : Int) == 36) = false ∧ decide (127 < (c.toNat : Int)) = true) := by
      generalize ((c.toNat : Int) == 95) = d1 at hwp ⊢
      generalize ((c.toNat : Int) == 36) = d2 at hwp ⊢
      generalize decide (127 < (c.toNat : Int)) = d3 at hwp ⊢
      revert hwp
      cases b1 <;> cases b2 <;> cases d1 <;> cases d2 <;> cases d3 <;> simp
    clear hc1 hc2 hb hwp
    have hwi : (word.length : Int) ≤ 1048576 := by omega
    by_cases hl : word.length < 16
    · have hli : (word.length : Int) < 16 := by omega
      rw [if_pos hl]
      have happ : (⟨word.toArray⟩ : ByteArray) ++ ⟨#[c]⟩ = ⟨(word ++ [c]).toArray⟩ := by apply ByteArray.ext; simp
      clear hl
      have hB1 := hide ((Below.refl w.heap.size w).alloc (Nat.le_refl _) (.cells #[.int .u8 (c.toNat : Int)] 5))
      have hcv := conv_new w [c] #[.int .u8 (c.toNat : Int)] 1 rfl rfl
      rw [← happ]
      clear happ
      rcases hcase with ⟨rfl⟩ | ⟨rfl, rfl⟩ | ⟨rfl, rfl, h95⟩ | ⟨rfl, rfl, h95, h36⟩ | ⟨rfl, rfl, h95, h36, h127⟩
      · go_enter Tryd.func78, Tryd.ntmps78
        go_wp2_with (first | (go_at_call 81; refine (cL.out _).mono ?_; rintro e w1 ⟨rfl, rfl⟩) | (go_at_call 82; refine (cD.out _).mono ?_; rintro e w1 ⟨rfl, rfl⟩))
        go_ret2
        exact ⟨rfl, hB1.out⟩
      · go_enter Tryd.func78, Tryd.ntmps78
        go_wp2_with (first | (go_at_call 81; refine (cL.out _).mono ?_; rintro e w1 ⟨rfl, rfl⟩) | (go_at_call 82; refine (cD.out _).mono ?_; rintro e w1 ⟨rfl, rfl⟩))
        go_ret2
        exact ⟨rfl, hB1.out⟩
      · go_enter Tryd.func78, Tryd.ntmps78
        go_wp2_with (first | (go_at_call 81; refine (cL.out _).mono ?_; rintro e w1 ⟨rfl, rfl⟩) | (go_at_call 82; refine (cD.out _).mono ?_; rintro e w1 ⟨rfl, rfl⟩))
        go_ret2
        exact ⟨rfl, hB1.out⟩
      · go_enter Tryd.func78, Tryd.ntmps78
        go_wp2_with (first | (go_at_call 81; refine (cL.out _).mono ?_; rintro e w1 ⟨rfl, rfl⟩) | (go_at_call 82; refine (cD.out _).mono ?_; rintro e w1 ⟨rfl, rfl⟩))
        go_ret2
        exact ⟨rfl, hB1.out⟩
      · go_enter Tryd.func78, Tryd.ntmps78
        go_wp2_with (first | (go_at_call 81; refine (cL.out _).mono ?_; rintro e w1 ⟨rfl, rfl⟩) | (go_at_call 82; refine (cD.out _).mono ?_; rintro e w1 ⟨rfl, rfl⟩))
        go_ret2
        exact ⟨rfl, hB1.out⟩
    · have hli : decide ((word.length : Int) < 16) = false := by simp; omega
      rw [if_neg hl]
      clear hl
      rcases hcase with ⟨rfl⟩ | ⟨rfl, rfl⟩ | ⟨rfl, rfl, h95⟩ | ⟨rfl, rfl, h95, h36⟩ | ⟨rfl, rfl, h95, h36, h127⟩
      · go_enter Tryd.func78, Tryd.ntmps78
        go_wp2_with (first | (go_at_call 81; refine (cL.out _).mono ?_; rintro e w1 ⟨rfl, rfl⟩) | (go_at_call 82; refine (cD.out _).mono ?_; rintro e w1 ⟨rfl, rfl⟩))
        go_ret2
        exact ⟨rfl, Below.refl _ _⟩
      · go_enter Tryd.func78, Tryd.ntmps78
        go_wp2_with (first | (go_at_call 81; refine (cL.out _).mono ?_; rintro e w1 ⟨rfl, rfl⟩) | (go_at_call 82; refine (cD.out _).mono ?_; rintro e w1 ⟨rfl, rfl⟩))
        go_ret2
        exact ⟨rfl, Below.refl _ _⟩
      · go_enter Tryd.func78, Tryd.ntmps78
        go_wp2_with (first | (go_at_call 81; refine (cL.out _).mono ?_; rintro e w1 ⟨rfl, rfl⟩) | (go_at_call 82; refine (cD.out _).mono ?_; rintro e w1 ⟨rfl, rfl⟩))
        go_ret2
        exact ⟨rfl, Below.refl _ _⟩
      · go_enter Tryd.func78, Tryd.ntmps78
        go_wp2_with (first | (go_at_call 81; refine (cL.out _).mono ?_; rintro e w1 ⟨rfl, rfl⟩) | (go_at_call 82; refine (cD.out _).mono ?_; rintro e w1 ⟨rfl, rfl⟩))
        go_ret2
        exact ⟨rfl, Below.refl _ _⟩
      · go_enter Tryd.func78, Tryd.ntmps78
        go_wp2_with (first | (go_at_call 81; refine (cL.out _).mono ?_; rintro e w1 ⟨rfl, rfl⟩) | (go_at_call 82; refine (cD.out _).mono ?_; rintro e w1 ⟨rfl, rfl⟩))
        go_ret2
        exact ⟨rfl, Below.refl _ _⟩
  · rw [hc2 hb]
    rw [hb] at hwp
    simp only [Bool.false_eq, Bool.or_eq_false_iff] at hwp
    obtain ⟨rfl, rfl, h95, h36, h127⟩ := hwp
    clear hc1 hc2 hb
    have cK := keyword_any word w
    have cB := fun w => refBlank_any c w
    rw [ended14]
    generalize wordsL.any (· == word) = kw at cK ⊢
    have hsg : ∀ n, n = 0 ∨ n = 1 → signB n c = if isBlank c then n else if (c.toNat : Int) == (34 : Nat) then 2 else if (c.toNat : Int) == (39 : Nat) then 3 else if (c.toNat : Int) == (96 : Nat) then 15
      else if (c.toNat : Int) == (47 : Nat) then 13 + n else if (c.toNat : Int) == (41 : Nat) || ((c.toNat : Int) == (93 : Nat) || (c.toNat : Int) == (125 : Nat)) then 1 else 0 := by
      intro n hn1
      have h13 : (if n == 0 then 13 else 14) = 13 + n := by rcases hn1 with rfl | rfl <;> rfl
      unfold signB; rw [h13, show blankB c = isBlank c from eq_of_beq (allBytes (fun c => blankB c == isBlank c) (by decide +kernel) c), eq_int c 34 34 rfl, eq_int c 39 39 rfl, eq_int c 96 96 rfl, eq_int c 47 47 rfl, eq_int c 41 41 rfl, eq_int c 93 93 rfl, eq_int c 125 125 rfl]
    have hx : ((34 : Nat) : Int) = 34 ∧ ((39 : Nat) : Int) = 39 ∧ ((96 : Nat) : Int) = 96 ∧ ((47 : Nat) : Int) = 47 ∧ ((41 : Nat) : Int) = 41 ∧ ((93 : Nat) : Int) = 93 ∧ ((125 : Nat) : Int) = 125 := by decide
    obtain ⟨x1, x2, x3, x4, x5, x6, x7⟩ := hx
    rw [x1, x2, x3, x4, x5, x6, x7] at hsg
    clear x1 x2 x3 x4 x5 x6 x7
    generalize isBlank c = bl at cB hsg
    have cK := hide cK; have cB := hide cB
    have case_true_0 : kw = true → p = 0 → Calls Tryd.prog 78 #[.int .i64 (p : Int), .string ⟨word.toArray⟩, .int .u8 (c.toNat : Int)] w fun e w' => e = .returned (.tuple #[.int .i64 ((signB (if kw then 0 else p) c : Nat) : Int), .string ⟨([] : List UInt8).toArray⟩]) ∧ Below w.heap.size w w' := by
      rintro rfl rfl
      rw [show (if (true : Bool) then 0 else 0) = 0 from rfl, hsg 0 (by decide)]
      obtain ⟨R, hR⟩ : ∃ R : Nat, (if bl then 0 else if (c.toNat : Int) == 34 then 2 else if (c.toNat : Int) == 39 then 3 else if (c.toNat : Int) == 96 then 15 else if (c.toNat : Int) == 47 then 13 + 0 else if (c.toNat : Int) == 41 || ((c.toNat : Int) == 93 || (c.toNat : Int) == 125) then 1 else 0) = R := ⟨_, rfl⟩
      rw [hR]
      have HR := hide hR
      clear hR hsg
      go_enter Tryd.func78, Tryd.ntmps78
      go_wp2_with (first | (go_at_call 81; refine (cL.out _).mono ?_; rintro e w1 ⟨rfl, rfl⟩) | (go_at_call 82; refine (cD.out _).mono ?_; rintro e w1 ⟨rfl, rfl⟩) | (go_at_call 107; refine (cK.out).mono ?_; rintro e w1 ⟨rfl, hb1⟩) | (go_at_call 23; refine (cB.out _).mono ?_; rintro e w2 ⟨rfl, rfl⟩))
      all_goals first
        | (exfalso; simp_all; done)
        | (go_ret2; refine ⟨?_, hb1⟩; rw [← HR.out]; clear HR cK cB cL cD; simp_all; done)
    have case_true_1 : kw = true → p = 1 → Calls Tryd.prog 78 #[.int .i64 (p : Int), .string ⟨word.toArray⟩, .int .u8 (c.toNat : Int)] w fun e w' => e = .returned (.tuple #[.int .i64 ((signB (if kw then 0 else p) c : Nat) : Int), .string ⟨([] : List UInt8).toArray⟩]) ∧ Below w.heap.size w w' := by
      rintro rfl rfl
      rw [show (if (true : Bool) then 0 else 1) = 0 from rfl, hsg 0 (by decide)]
      obtain ⟨R, hR⟩ : ∃ R : Nat, (if bl then 0 else if (c.toNat : Int) == 34 then 2 else if (c.toNat : Int) == 39 then 3 else if (c.toNat : Int) == 96 then 15 else if (c.toNat : Int) == 47 then 13 + 0 else if (c.toNat : Int) == 41 || ((c.toNat : Int) == 93 || (c.toNat : Int) == 125) then 1 else 0) = R := ⟨_, rfl⟩
      rw [hR]
      have HR := hide hR
      clear hR hsg
      go_enter Tryd.func78, Tryd.ntmps78
      go_wp2_with (first | (go_at_call 81; refine (cL.out _).mono ?_; rintro e w1 ⟨rfl, rfl⟩) | (go_at_call 82; refine (cD.out _).mono ?_; rintro e w1 ⟨rfl, rfl⟩) | (go_at_call 107; refine (cK.out).mono ?_; rintro e w1 ⟨rfl, hb1⟩) | (go_at_call 23; refine (cB.out _).mono ?_; rintro e w2 ⟨rfl, rfl⟩))
      all_goals first
        | (exfalso; simp_all; done)
        | (go_ret2; refine ⟨?_, hb1⟩; rw [← HR.out]; clear HR cK cB cL cD; simp_all; done)
    have case_false_0 : kw = false → p = 0 → Calls Tryd.prog 78 #[.int .i64 (p : Int), .string ⟨word.toArray⟩, .int .u8 (c.toNat : Int)] w fun e w' => e = .returned (.tuple #[.int .i64 ((signB (if kw then 0 else p) c : Nat) : Int), .string ⟨([] : List UInt8).toArray⟩]) ∧ Below w.heap.size w w' := by
      rintro rfl rfl
      rw [show (if (false : Bool) then 0 else 0) = 0 from rfl, hsg 0 (by decide)]
      obtain ⟨R, hR⟩ : ∃ R : Nat, (if bl then 0 else if (c.toNat : Int) == 34 then 2 else if (c.toNat : Int) == 39 then 3 else if (c.toNat : Int) == 96 then 15 else if (c.toNat : Int) == 47 then 13 + 0 else if (c.toNat : Int) == 41 || ((c.toNat : Int) == 93 || (c.toNat : Int) == 125) then 1 else 0) = R := ⟨_, rfl⟩
      rw [hR]
      have HR := hide hR
      clear hR hsg
      go_enter Tryd.func78, Tryd.ntmps78
      go_wp2_with (first | (go_at_call 81; refine (cL.out _).mono ?_; rintro e w1 ⟨rfl, rfl⟩) | (go_at_call 82; refine (cD.out _).mono ?_; rintro e w1 ⟨rfl, rfl⟩) | (go_at_call 107; refine (cK.out).mono ?_; rintro e w1 ⟨rfl, hb1⟩) | (go_at_call 23; refine (cB.out _).mono ?_; rintro e w2 ⟨rfl, rfl⟩))
      all_goals first
        | (exfalso; simp_all; done)
        | (go_ret2; refine ⟨?_, hb1⟩; rw [← HR.out]; clear HR cK cB cL cD; simp_all; done)
    have case_false_1 : kw = false → p = 1 → Calls Tryd.prog 78 #[.int .i64 (p : Int), .string ⟨word.toArray⟩, .int .u8 (c.toNat : Int)] w fun e w' => e = .returned (.tuple #[.int .i64 ((signB (if kw then 0 else p) c : Nat) : Int), .string ⟨([] : List UInt8).toArray⟩]) ∧ Below w.heap.size w w' := by
      rintro rfl rfl
      rw [show (if (false : Bool) then 0 else 1) = 1 from rfl, hsg 1 (by decide)]
      obtain ⟨R, hR⟩ : ∃ R : Nat, (if bl then 1 else if (c.toNat : Int) == 34 then 2 else if (c.toNat : Int) == 39 then 3 else if (c.toNat : Int) == 96 then 15 else if (c.toNat : Int) == 47 then 13 + 1 else if (c.toNat : Int) == 41 || ((c.toNat : Int) == 93 || (c.toNat : Int) == 125) then 1 else 0) = R := ⟨_, rfl⟩
      rw [hR]
      have HR := hide hR
      clear hR hsg
      go_enter Tryd.func78, Tryd.ntmps78
      go_wp2_with (first | (go_at_call 81; refine (cL.out _).mono ?_; rintro e w1 ⟨rfl, rfl⟩) | (go_at_call 82; refine (cD.out _).mono ?_; rintro e w1 ⟨rfl, rfl⟩) | (go_at_call 107; refine (cK.out).mono ?_; rintro e w1 ⟨rfl, hb1⟩) | (go_at_call 23; refine (cB.out _).mono ?_; rintro e w2 ⟨rfl, rfl⟩))
      all_goals first
        | (exfalso; simp_all; done)
        | (go_ret2; refine ⟨?_, hb1⟩; rw [← HR.out]; clear HR cK cB cL cD; simp_all; done)
    cases kw with
    | true => rcases hp with h | h; exact case_true_0 rfl h; exact case_true_1 rfl h
    | false => rcases hp with h | h; exact case_false_0 rfl h; exact case_false_1 rfl h
end Go.Proofs.YtdnmgpidfjkiaaaDoor
