/-
  jslex: one.
-/
import Derived.Test.YtdnmgpidfjkiaaaDoorLexD
namespace Go.Proofs.YtdnmgpidfjkiaaaDoor
open Go.RowKit
set_option linter.unusedVariables false
set_option linter.unusedSimpArgs false

set_option maxHeartbeats 1000000 in
set_option maxRecDepth 100000 in
theorem one_any (s : List UInt8) (P : List Pc) (b : Nat) (v1 o : Value) (base a : Nat) (c : UInt8) (w : World) (hk : Blk w b 72 #[.string ⟨s.toArray⟩, v1, o]) (hown : w.ownsRow base 44 3 o P.length (pcCells P)) (hP : ∀ q ∈ P, 1 ≤ q.k ∧ q.k ≤ 5) (hPz : P.length ≤ 65536) (hL : LexW w)
    (hz : s.length ≤ 65536) (hc : s[a]? = some c) :
    Calls Tryd.prog 47 #[.pointer (some ⟨b, 0, none⟩), .int .i64 (a : Int)] w fun e w' => ∃ k z : Int, e = .returned (.tuple #[.int .i64 k, .int .i64 z]) ∧ oneR s P a c k z ∧ Below w.heap.size w w' := by
  have ha := some_ltL hc
  have c0 := hk.cell 0
  simp at c0
  obtain ⟨hlz, hx⟩ := read_at hc
  have hsz : (⟨s.toArray⟩ : ByteArray).size = s.length := mk_size s
  have hai : (a : Int) < (s.length : Int) := by omega
  have cW := hide (fun w => lexWordy_any c w)
  have cE := fun q => ends_any s b v1 o a q w hk ha hz
  have HK := hide hk
  by_cases hw : wordyB c = true
  · have hone : ∀ k z, oneR s P a c k z = (k = 1 ∧ z = wordE s a) := fun k z => by unfold oneR; rw [if_pos hw]
    have hone := hide hone
    have hE : Hid (a + ((s.drop a).takeWhile wordyB).length = wordE s a) := rfl
    generalize wordE s a = E at hE hone
    rw [hw] at cW
    clear hk hown hP hPz hL cE hw
    go_enter Tryd.func47, Tryd.ntmps47
    go_wp2_with (go_at_call 73; refine (cW.out _).mono ?_; rintro e w1 ⟨rfl, rfl⟩)
    go_loopw [7] (fun iv wr => ∃ (i : Nat), iv = .int .i64 (i : Int) ∧ i ≤ s.length ∧ wr = w ∧ Hid (i + ((s.drop i).takeWhile wordyB).length = E)) (fun iv _ => s.length - (intOf iv).toNat)
    case atStart => exact ⟨a, rfl, by omega, rfl, hE⟩
    case round =>
      obtain ⟨i, rfl, hi, rfl, hrel⟩ := hrel
      by_cases hlt : i < s.length
      · obtain ⟨x, hxx⟩ : ∃ x, s[i]? = some x := ⟨_, List.getElem?_eq_getElem hlt⟩
        obtain ⟨hlz2, hx2⟩ := read_at hxx
        have hki : (i : Int) < (s.length : Int) := by omega
        have cW2 := hide (fun w => lexWordy_any x w)
        have hd : s.drop i = x :: s.drop (i + 1) := by
          rw [List.drop_eq_getElem_cons hlt]
          rw [List.getElem?_eq_getElem hlt] at hxx
          injection hxx with hxx
          rw [hxx]
        have hst := hrel.out
        rw [hd] at hst
        rcases Bool.eq_false_or_eq_true (wordyB x) with g1 | g1
        · rw [List.takeWhile_cons_of_pos g1] at hst
          rw [g1] at cW2
          have hnx : Hid (i + 1 + ((s.drop (i + 1)).takeWhile wordyB).length = E) := by
            show _ = _
            rw [← hst]; simp; omega
          clear hst hrel hxx hd g1
          go_wp2_with (go_at_call 73; refine (cW2.out _).mono ?_; rintro e w1 ⟨rfl, rfl⟩)
          go_roundw
          case rel => exact ⟨i + 1, by go_num, by omega, by trivial, hnx⟩
          case measure => simp [intOf]; omega
        · rw [List.takeWhile_cons_of_neg (by rw [g1]; decide)] at hst
          rw [g1] at cW2
          have hEi : Hid (E = i) := by show _ = _; rw [← hst]; rfl
          clear hst hrel hxx hd g1
          go_wp2_with (go_at_call 73; refine (cW2.out _).mono ?_; rintro e w1 ⟨rfl, rfl⟩)
          go_ret2
          exact ⟨_, _, rfl, by rw [hone.out]; first | exact ⟨rfl, by rw [hEi.out]⟩ | simp [hEi.out], Below.refl _ _⟩
      · have hge : decide ((i : Int) < (s.length : Int)) = false := by simp; omega
        have hEi : Hid (E = i) := by
          show _ = _
          rw [← hrel.out, List.drop_eq_nil_of_le (by omega)]
          rfl
        clear hrel
        go_wp2_with fail
        go_ret2
        exact ⟨_, _, rfl, by rw [hone.out]; first | exact ⟨rfl, by rw [hEi.out]⟩ | simp [hEi.out], Below.refl _ _⟩
  · have hw : wordyB c = false := by simpa using hw
    have hone : ∀ k z, oneR s P a c k z = (if c == 34 || c == 39 then k = 2 ∧ z = endsI c s a
      else if c == 47 then
        (if Lib.hasPrefix (s.drop a) [47, 47] || Lib.hasPrefix (s.drop a) [47, 42] then k = 4 ∧ z = remI s a
         else if freshPc P then k = 3 ∧ z = endsI 47 s a else k = 5 ∧ z = (a : Int) + 1)
      else if c == 96 then k = 5 ∧ z = -1
      else k = 5 ∧ z = (a : Int) + 1) := fun k z => by unfold oneR; rw [if_neg (by rw [hw]; decide)]
    rw [hw] at cW
    have e34 := eq_intL c 34 34 rfl
    have e39 := eq_intL c 39 39 rfl
    have e47 := eq_intL c 47 47 rfl
    have e96 := eq_intL c 96 96 rfl
    have cE := hide (cE c)
    rcases Bool.eq_false_or_eq_true (c == 34 || c == 39) with g1 | g1
    · rw [g1] at hone
      simp only [if_true] at hone
      have hone := hide hone
      rw [e34, e39] at g1
      have g1 : (((c.toNat : Int) == 34) || ((c.toNat : Int) == 39)) = true := g1
      clear e34 e39 e47 e96 hk hown hP hPz hL hw
      rcases Bool.eq_false_or_eq_true ((c.toNat : Int) == 34) with g2 | g2
      · clear g1
        go_enter Tryd.func47, Tryd.ntmps47
        go_wp2_with (go_at_call 73; refine (cW.out _).mono ?_; rintro e w1 ⟨rfl, rfl⟩)
        (try go_wp2_with fail)
        refine (cE.out).mono ?_
        rintro e w4 ⟨rfl, hb4⟩
        go_wp2_with fail
        go_ret2
        exact ⟨_, _, rfl, by rw [hone.out]; exact ⟨rfl, rfl⟩, hb4⟩
      · rw [g2, Bool.false_or] at g1
        go_enter Tryd.func47, Tryd.ntmps47
        go_wp2_with (go_at_call 73; refine (cW.out _).mono ?_; rintro e w1 ⟨rfl, rfl⟩)
        (try go_wp2_with fail)
        refine (cE.out).mono ?_
        rintro e w4 ⟨rfl, hb4⟩
        go_wp2_with fail
        go_ret2
        exact ⟨_, _, rfl, by rw [hone.out]; exact ⟨rfl, rfl⟩, hb4⟩
    · rw [g1] at hone
      simp only [Bool.false_eq_true, if_false] at hone
      rw [e34, e39] at g1
      obtain ⟨g2, g3⟩ : ((c.toNat : Int) == 34) = false ∧ ((c.toNat : Int) == 39) = false := by simpa using g1
      clear g1 e34 e39
      rcases Bool.eq_false_or_eq_true (c == 47) with g4 | g4
      · have hc47 : c = 47 := by simpa using g4
        subst hc47
        have cS := hide (slash_any s P b v1 o base a w hk hown hP hPz hL ha hz hc)
        have hone : Hid (∀ k z, oneR s P a 47 k z = oneR s P a 47 k z) := fun _ _ => rfl
        clear e47 e96 hk hown hP hPz hL hw cE g4 g2 g3 hone
        go_enter Tryd.func47, Tryd.ntmps47
        go_wp2_with (go_at_call 73; refine (cW.out _).mono ?_; rintro e w1 ⟨rfl, rfl⟩)
        (try go_wp2_with fail)
        refine (cS.out).mono ?_
        rintro e w4 ⟨k, z, rfl, hkz, hb4⟩
        go_wp2_with fail
        go_ret2
        exact ⟨_, _, rfl, hkz, hb4⟩
      · rw [g4] at hone
        simp only [Bool.false_eq_true, if_false] at hone
        rw [e47] at g4
        have g4 : ((c.toNat : Int) == 47) = false := g4
        clear e47 cE
        rcases Bool.eq_false_or_eq_true (c == 96) with g5 | g5
        · rw [g5] at hone
          simp only [if_true] at hone
          rw [e96] at g5
          have g5 : ((c.toNat : Int) == 96) = true := g5
          have hone := hide hone
          clear e96 hk hown hP hPz hL hw
          go_enter Tryd.func47, Tryd.ntmps47
          go_wp2_with (go_at_call 73; refine (cW.out _).mono ?_; rintro e w1 ⟨rfl, rfl⟩)
          (try go_wp2_with fail)
          go_ret2
          exact ⟨_, _, rfl, by rw [hone.out]; exact ⟨rfl, rfl⟩, Below.refl _ _⟩
        · rw [g5] at hone
          simp only [Bool.false_eq_true, if_false] at hone
          rw [e96] at g5
          have g5 : ((c.toNat : Int) == 96) = false := g5
          have hone := hide hone
          clear e96 hk hown hP hPz hL hw
          go_enter Tryd.func47, Tryd.ntmps47
          go_wp2_with (go_at_call 73; refine (cW.out _).mono ?_; rintro e w1 ⟨rfl, rfl⟩)
          (try go_wp2_with fail)
          go_ret2
          exact ⟨_, _, rfl, by rw [hone.out]; exact ⟨rfl, rfl⟩, Below.refl _ _⟩
end Go.Proofs.YtdnmgpidfjkiaaaDoor
