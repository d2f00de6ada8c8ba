/-
  JslexPieces: THE WALK.
-/
import Derived.Test.YtdnmgpidfjkiaaaDoorLexH
import Derived.Test.YtdnmgpidfjkiaaaDoorLexW
import Derived.Deep.QuietTactic
namespace Go.Proofs.YtdnmgpidfjkiaaaDoor
open Go.RowKit
set_option linter.unusedVariables false
set_option linter.unusedSimpArgs false

theorem endA_take (P : List Pc) (k : Nat) (q : Pc) (h : P[k]? = some q) : endA (P.take (k + 1)) = q.p + q.t.length := by
  rw [List.take_add_one, h]
  exact endA_snoc _ q
set_option maxHeartbeats 4000000 in
set_option maxRecDepth 100000 in
theorem jslexPieces_walk (a0 : ByteArray) (s0 : a0.size ≤ 140737488351232) (w : World) (hS : Lib.TabIs Tryd.prog w "strings.asciiSpace" .u8 Lib.asciiSpaceTab) (hM : LenW w) :
    Calls Tryd.prog 6 #[.string a0] w fun e w' => e = .returned (.bool true) ∧ Below w.heap.size w w' := by
  obtain ⟨s, rfl⟩ := ba_list a0
  have hsz : (⟨s.toArray⟩ : ByteArray).size = s.length := mk_size s
  have hL : LexW w := ⟨hS, hM.len, hM.lt⟩
  rw [hsz] at s0
  have hL := hide hL
  clear hS hM
  go_enter Tryd.func6, Tryd.ntmps6
  go_wp2_with fail
  refine (alive38 w hL.out).mono ?_
  rintro e w1 ⟨rfl, hb1⟩
  have cP := hide (pieces_any s w1 (hL.out.below hb1))
  go_wp2_with fail
  refine (cP.out).mono ?_
  rintro e w2 ⟨v, P, n, er, rfl, hT, hown, hb2⟩
  have hB2 := below_step hb1 hb2
  have hT := hide hT
  obtain ⟨A1, c1, rfl⟩ := own_sliceL hown
  clear cP hb1 hb2 hL
  by_cases hlong : 65536 < s.length
  · have hl : (65536 : Int) < (s.length : Int) := by omega
    obtain ⟨rfl, rfl, rfl⟩ : P = [] ∧ n = 0 ∧ er = 5 := by
      rcases hT.out with ⟨_, h1, h2, h3⟩ | ⟨h, _⟩ | ⟨h, _⟩
      · exact ⟨h1, h2, h3⟩
      · omega
      · omega
    clear hown hT
    go_wp2_with fail
    go_ret
    exact ⟨rfl, hB2⟩
  · have hl : decide ((65536 : Int) < (s.length : Int)) = false := by simp; omega
    have hl2 : s.length ≤ 65536 := by omega
    by_cases he : er = 0
    rotate_left
    · obtain ⟨rfl, hn0, hn1, he2⟩ := told_bad hT.out hl2 he
      clear hown hT
      rcases he2 with rfl | rfl
      · go_wp2_with fail
        go_ret
        exact ⟨rfl, hB2⟩
      · go_wp2_with fail
        go_ret
        exact ⟨rfl, hB2⟩
    · subst he
      obtain ⟨rfl, hC⟩ := told_cut hT.out hl2 rfl
      have hPz := told_len hT.out
      have cK := hide (kinds_any _ P _ w2 hPz hown)
      have HC := hide hC
      have HO := hide hown
      clear hC hown hT
      go_wp2_with fail
      refine (cK.out).mono ?_
      rintro e w3 ⟨kv, rfl, hownK, hb3⟩
      obtain ⟨A2, c2, rfl⟩ := own_sliceL hownK
      have hB3 := below_step hB2 hb3
      have hownP := own_keepL HO.out hb3
      have HK := hide hownK
      have HP := hide hownP
      have HB := hide hB3
      clear cK hb3 HO hB2 hownK hownP hB3
      go_wp2_with fail
      go_loopw [6, 8] (fun at_ i wr => ∃ k : Nat, i = .int .i64 (k : Int) ∧ at_ = .int .i64 ((endA (P.take k) : Nat) : Int) ∧ k ≤ P.length ∧ Below w3.heap.size w3 wr) (fun _ i _ => P.length - (intOf i).toNat)
      case atStart => exact ⟨0, rfl, by simp [endA], Nat.zero_le _, Below.refl _ _⟩
      case round =>
        obtain ⟨k, rfl, rfl, hk, hb⟩ := hrel
        by_cases hlt : k < P.length
        · obtain ⟨q, hq⟩ : ∃ q, P[k]? = some q := ⟨_, List.getElem?_eq_getElem hlt⟩
          have hG := HC.out.each k q hq
          obtain ⟨g, cap, he, hgl, d0, d1, d2⟩ := own_pc (own_keepL HP.out hb) k q hq
          obtain ⟨gk, capk, hek, hglk, f0⟩ := own_int (own_keepL HK.out hb) k q hq
          injection he with he1 he2 he3
          injection hek with hk1 hk2 hk3
          have hnx := hide (endA_take P k q hq)
          obtain ⟨hG1, hG2, hG3, hG4, hG5, hG6, hG7⟩ := hG
          have hGb := hide hG2
          have hXe := ext_eq s q.p (q.p + q.t.length)
          rw [hG5] at hXe
          obtain ⟨qk, qt, qp⟩ := q
          simp only at d0 d1 d2 f0 hnx hG1 hGb hG3 hG4 hG6 hG7 hXe
          obtain ⟨x, hx⟩ : ∃ x : ByteArray, (⟨qt.toArray⟩ : ByteArray) = x := ⟨_, rfl⟩
          have hxs : x.size = qt.length := by rw [← hx]; exact mk_size qt
          obtain ⟨z, hz⟩ : ∃ z, qt.length = z := ⟨_, rfl⟩
          have hz0 : 0 < z := by
            rw [← hz]
            cases qt with
            | nil => exact absurd rfl hG3
            | cons => simp
          rw [hx] at d1 hXe
          rw [hz] at hXe hnx hG4 hxs
          have hki : (k : Int) < (P.length : Int) := by omega
          have hx0 : x.toList.isEmpty = false := by
            rw [ByteArray.toList_eq, ← hx]
            cases qt with
            | nil => exact absurd rfl hG3
            | cons => rfl
          have e1 : decide ((s.length : Int) < (qp : Int) + (z : Int)) = false := by simp; omega
          have e2 : decide (qk < 1) = false := by simp; omega
          have e3 : decide (5 < qk) = false := by simp; omega
          have e4 : decide ((P.length : Int) ≤ (k : Int)) = false := by simp; omega
          have e5 : (qp : Int) ≤ (qp : Int) + (z : Int) := by omega
          have e6 : (qp : Int) + (z : Int) ≤ (s.length : Int) := by omega
          have e7 : ((qp : Int) + (z : Int)).toNat = qp + z := by omega
          subst he1; subst he3; subst hk1; subst hk3
          generalize hA : endA (P.take k) = A0 at hG1 hGb
          clear hq hG2 hG3 hG5 hx hz hA
          go_wp2_with fail
          go_loopw [6] (fun at_ wr2 => ∃ j : Nat, at_ = .int .i64 (j : Int) ∧ A0 ≤ j ∧ j ≤ qp ∧ wr2 = wr) (fun at_ _ => qp - (intOf at_).toNat)
          case atStart => exact ⟨A0, rfl, Nat.le_refl _, hG1, rfl⟩
          case round =>
            obtain ⟨j, rfl, hj1, hj2, rfl⟩ := hrel
            by_cases hjl : j < qp
            · obtain ⟨c, hc, hbl⟩ := hGb.out j hj1 hjl
              obtain ⟨hlz, hxx⟩ := read_at hc
              have hji : (j : Int) < (qp : Int) := by omega
              have hjs : (j : Int) < (s.length : Int) := by omega
              have cB := hide (fun w => refBlank_any c w)
              rw [hbl] at cB
              clear hc hbl
              go_wp2_with (go_at_call 23; refine (cB.out _).mono ?_; rintro e w1 ⟨rfl, rfl⟩)
              go_roundw
              case rel => exact ⟨j + 1, by go_num, by omega, by omega, by first | rfl | trivial⟩
              case measure => simp [intOf]; omega
            · have hjq : j = qp := by omega
              subst hjq
              have hjf : decide ((j : Int) < (j : Int)) = false := by simp
              go_wp2_with fail
              go_quiet (fail)
              go_wp2_with fail
              go_quiet (fail)
              go_wp2_with fail
              go_roundw
              case rel => exact ⟨k + 1, by go_num, by rw [hnx.out]; go_num, by omega, below_drewN hb _⟩
              case measure => simp [intOf]; omega
        · have hk2 : k = P.length := by omega
          subst hk2
          have hge : decide ((P.length : Int) < (P.length : Int)) = false := by simp
          rw [List.take_length]
          have hCb := hide HC.out.blanks
          have hCe := HC.out.ends
          generalize endA P = A0 at hCb hCe ⊢
          go_wp2_with fail
          go_loopw [6] (fun at_ wr2 => ∃ j : Nat, at_ = .int .i64 (j : Int) ∧ A0 ≤ j ∧ j ≤ s.length ∧ wr2 = wr) (fun at_ _ => s.length - (intOf at_).toNat)
          case atStart => exact ⟨A0, rfl, Nat.le_refl _, hCe, rfl⟩
          case round =>
            obtain ⟨j, rfl, hj1, hj2, rfl⟩ := hrel
            by_cases hjl : j < s.length
            · obtain ⟨c, hc, hbl⟩ := hCb.out j hj1 hjl
              obtain ⟨hlz, hxx⟩ := read_at hc
              have hjs : (j : Int) < (s.length : Int) := by omega
              have cB := hide (fun w => refBlank_any c w)
              rw [hbl] at cB
              clear hc hbl
              go_wp2_with (go_at_call 23; refine (cB.out _).mono ?_; rintro e w1 ⟨rfl, rfl⟩)
              go_roundw
              case rel => exact ⟨j + 1, by go_num, by omega, by omega, by first | rfl | trivial⟩
              case measure => simp [intOf]; omega
            · have hjq : j = s.length := by omega
              subst hjq
              have hjf : decide ((s.length : Int) < (s.length : Int)) = false := by simp
              go_wp2_with fail
              go_ret
              exact ⟨rfl, below_step HB.out hb⟩
end Go.Proofs.YtdnmgpidfjkiaaaDoor
