/-
  JslexTexts: THE WALK.
-/
import Derived.Test.YtdnmgpidfjkiaaaDoorLexH
import Derived.Test.YtdnmgpidfjkiaaaDoorLexW
import Derived.Test.YtdnmgpidfjkiaaaDoorM1
import Derived.Test.YtdnmgpidfjkiaaaDoorInside
import Derived.Test.YtdnmgpidfjkiaaaDoorJsDec
namespace Go.Proofs.YtdnmgpidfjkiaaaDoor
open Go.RowKit
set_option linter.unusedVariables false
set_option linter.unusedSimpArgs false

set_option maxHeartbeats 400000 in
set_option maxRecDepth 100000 in
theorem text_any (q : UInt8) (s : List UInt8) (p : Nat) (w : World) (hz : s.length ≤ 100000000) :
    Calls Tryd.prog 28 #[.agg #[.int .i64 2, .string ⟨(q :: (escR s ++ [q])).toArray⟩, .int .i64 (p : Int)]] w fun e w' => e = .returned (.tuple #[.string ⟨(repairR s).toArray⟩, .bool true]) ∧ Below w.heap.size w w' := by
  have hXe : (⟨(q :: (escR s ++ [q])).toArray⟩ : ByteArray).extract 1 ((escR s).length + 1) = ⟨(escR s).toArray⟩ := by
    rw [ext_eq]
    congr 2
    rw [List.take_succ_cons, List.take_left]
    rfl
  have hxs : (⟨(q :: (escR s ++ [q])).toArray⟩ : ByteArray).size = (escR s).length + 2 := by rw [mk_size]; simp
  have hel := escR_len s
  have cD := fun w => jsDecode_ok s w (by omega)
  obtain ⟨x, hx⟩ : ∃ x, (⟨(q :: (escR s ++ [q])).toArray⟩ : ByteArray) = x := ⟨_, rfl⟩
  rw [hx] at hXe hxs ⊢
  obtain ⟨y, hy⟩ : ∃ y, (⟨(escR s).toArray⟩ : ByteArray) = y := ⟨_, rfl⟩
  rw [hy] at hXe cD
  have hXe := hide hXe
  have cD := hide cD
  generalize (escR s).length = m at *
  have hm1 : ((m : Int) + 2 - 1) = (((m + 1 : Nat)) : Int) := by omega
  have hlt2 : ¬ ((m : Int) + 2 < 2) := by omega
  clear hx hy
  go_enter Tryd.func28, Tryd.ntmps28
  go_wp2_with fail
  (try rw [hXe.out])
  refine (cD.out _).mono ?_
  rintro e w1 ⟨rfl, hb1⟩
  go_wp2_with fail
  go_ret2
  exact ⟨rfl, ((Below.refl _ _).alloc (Nat.le_refl _) _).trans (hb1.mono (by simp))⟩
theorem quoted_cat (q : UInt8) (s : List UInt8) : (⟨#[32]⟩ : ByteArray) ++ ⟨#[q]⟩ ++ ⟨(escR s).toArray⟩ ++ ⟨#[q]⟩ ++ ⟨#[32]⟩ = ⟨(quotedL q s).toArray⟩ := by
  apply ByteArray.ext; simp [quotedL]
set_option maxHeartbeats 4000000 in
set_option maxRecDepth 100000 in
theorem jslexTexts_walk (a0 : ByteArray) (s0 : a0.size ≤ 1048576) (w : World) (hS : Lib.TabIs Tryd.prog w "strings.asciiSpace" .u8 Lib.asciiSpaceTab) (hM : LenW w) :
    Calls Tryd.prog 8 #[.string a0] w fun e w' => e = .returned (.bool true) ∧ Below w.heap.size w w' := by
  obtain ⟨s, rfl⟩ := ba_list a0
  rw [mk_size] at s0
  have hL : LexW w := ⟨hS, hM.len, hM.lt⟩
  have hL := hide hL
  clear hS hM
  have hel := escR_len s
  have hcat := hide (fun q => quoted_cat q s)
  have hql := hide (fun q => quotedL_len q s)
  have hys : (⟨(escR s).toArray⟩ : ByteArray).size = (escR s).length := mk_size _
  have cI := hide (fun w => inside_any s w (by omega))
  have cR := hide (fun w => refRepair_any s w (by omega))
  have cT := hide (fun q p w => text_any q s p w (by omega))
  have hTl := hide (fun q (hq : q = 34 ∨ q = 39) P n e => @quoted_told q hq s P n e)
  obtain ⟨y, hy⟩ : ∃ y, (⟨(escR s).toArray⟩ : ByteArray) = y := ⟨_, rfl⟩
  rw [hy] at hcat cI hys
  have hy := hide hy
  obtain ⟨m, hm⟩ : ∃ m, (escR s).length = m := ⟨_, rfl⟩
  rw [hm] at hys hql hel
  go_enter Tryd.func8, Tryd.ntmps8
  go_wp2_with fail
  refine (alive38 w hL.out).mono ?_
  rintro e w1 ⟨rfl, hb1⟩
  go_wp2_with fail
  refine (cI.out w1).mono ?_
  rintro e w2 ⟨rfl, hb2⟩
  have hB2 := below_step hb1 hb2
  have hK2 := Blk.new w2 9 #[.string ⟨#[34]⟩, .string ⟨#[39]⟩]
  have hB3 := hB2.alloc hB2.size (.cells #[.string ⟨#[34]⟩, .string ⟨#[39]⟩] 9)
  clear hb1 hb2
  go_wp2_with fail
  generalize w2.alloc (.cells #[.string ⟨#[34]⟩, .string ⟨#[39]⟩] 9) = w3 at hK2 hB3 ⊢
  have HK := hide hK2; have HB := hide hB3
  clear hK2 hB3 hB2
  go_loopw [5] (fun i wr => ∃ k : Nat, i = .int .i64 (k : Int) ∧ k ≤ 2 ∧ Below w3.heap.size w3 wr) (fun i _ => 2 - (intOf i).toNat)
  case atStart => exact ⟨0, rfl, by omega, Below.refl _ _⟩
  case round =>
    obtain ⟨k, rfl, hk, hb⟩ := hrel
    by_cases hk2 : k = 2
    · subst hk2
      go_wp2_with fail
      go_ret
      exact ⟨rfl, below_step HB.out hb⟩
    · have hki : (k : Int) < 2 := by omega
      obtain ⟨q, hq, hc⟩ : ∃ q : UInt8, (q = 34 ∨ q = 39) ∧ wr.cell? ⟨w2.heap.size, k, none⟩ = some (.string ⟨#[q]⟩) := by
        have h := (HK.out.below hb HK.out.lt).cell k
        have hk01 : k = 0 ∨ k = 1 := by omega
        rcases hk01 with rfl | rfl
        · exact ⟨34, .inl rfl, h⟩
        · exact ⟨39, .inr rfl, h⟩
      have hlt2 : w2.heap.size < wr.heap.size := by have := HK.out.lt; have := hb.size; omega
      have hLr := hL.out.below (below_step HB.out hb)
      have cP := hide (fun W (h : Below wr.heap.size wr W) => pieces_any (quotedL q s) W (hLr.below h))
      have hcq := hide (hcat.out q)
      have n1 : ¬ (9223372036854775807 < 1 + 1 + y.size) := by omega
      have n2 : ¬ (9223372036854775807 < 1 + 1 + y.size + 1) := by omega
      have n3 : ¬ (9223372036854775807 < 1 + 1 + y.size + 1 + 1) := by omega
      have hHT := hide (hTl.out q hq)
      have hqq := hql.out q
      have hqq := hide hqq
      have hqh := hide hq
      clear hLr hq
      go_wp2_with fail
      go_region_with (go_at_call 21; rw [hcq.out]; refine (cP.out _ ?_).mono ?_; exact (Below.refl _ _).drew; rintro e w4 ⟨v, P, n, er, rfl, hT, hown, hb4⟩)
      all_goals
        have hb5 := hb.trans (((Below.refl wr.heap.size wr).drew.trans hb4).mono hb.size)
        obtain ⟨A1, c1, rfl⟩ := own_sliceL hown
        have hT := hide hT
        by_cases hlong : 60000 < m
        · have hl : (60000 : Int) < (m : Int) := by omega
          go_wp2_with fail
          go_ret
          exact ⟨rfl, below_step HB.out hb5⟩
        · have hl : decide ((60000 : Int) < (m : Int)) = false := by simp; omega
          obtain ⟨rfl, rfl⟩ := hHT.out _ _ _ hT.out (by rw [hqq.out]; omega)
          obtain ⟨g, cap, he, hgl, d0, d1, d2⟩ := own_pc hown 0 (quotedP q s) rfl
          simp only [quotedP, Nat.zero_mul, Nat.zero_add] at d0 d1 d2
          injection he with he1 he2 he3
          subst he1; subst he3
          have cT1 := cT.out q 1
          obtain ⟨x, hx⟩ : ∃ x, (⟨(q :: (escR s ++ [q])).toArray⟩ : ByteArray) = x := ⟨_, rfl⟩
          rw [hx] at d1 cT1
          have cT1 := hide cT1
          clear hx hown hT
          go_wp2_with fail
          refine (cT1.out _).mono ?_
          rintro e w5 ⟨rfl, hb6⟩
          have hb7 := hb5.trans (hb6.mono hb5.size)
          go_wp2_with (go_at_call 29; refine (cR.out _).mono ?_; rintro e w6 ⟨rfl, hb8⟩)
          go_roundw
          case rel => exact ⟨k + 1, by go_num, by omega, hb7.trans (hb8.mono hb7.size)⟩
          case measure => simp [intOf]; omega
end Go.Proofs.YtdnmgpidfjkiaaaDoor
