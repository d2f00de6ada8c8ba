/-
  The page's Rising, Check and Plain of values.
-/
import Derived.Test.YtdnmgpidfjkiaaaDoorVSame
import Derived.Test.YtdnmgpidfjkiaaaDoorM2
import Derived.Test.YtdnmgpidfjkiaaaDoorRName
import Derived.Deep.RegionWith
import Derived.Laws.Cover1
namespace Go.Proofs.YtdnmgpidfjkiaaaDoor
open Go.RowKit
set_option linter.unusedVariables false
set_option linter.unusedSimpArgs false

set_option maxHeartbeats 4000000 in
set_option maxRecDepth 100000 in
theorem rising_any (U : World → Nat → Prop) (a : Option Addr) (c : Nat) (ks : List (List UInt8)) (w : World) (hS : StrsAt U w a ks) (hz : ks.length * 16 ≤ 140737488351232) (hk : ∀ k ∈ ks, k.length ≤ 140737488351232) :
    Calls Tryd.prog 70 #[.slice a ks.length c] w fun e w' => e = .returned (.bool (risingK ks)) ∧ Below w.heap.size w w' := by
  obtain ⟨R, hR⟩ : ∃ R, risingK ks = R := ⟨_, rfl⟩
  obtain ⟨n, hn⟩ : ∃ n, ks.length = n := ⟨_, rfl⟩
  rw [hR]
  rw [hn] at hz ⊢
  have HS := hide hS; have HK := hide hk; have HR := hide hR; have HN := hide hn
  clear hS hk hR hn
  go_enter Tryd.func70, Tryd.ntmps70
  go_wp2_with fail
  go_loopw [3] (fun i wr => ∃ j : Nat, i = .int .i64 (j : Int) ∧ j ≤ n ∧ Below w.heap.size w wr ∧ Hid (∀ r, r < j → upAt ks r = true)) (fun i _ => n - (intOf i).toNat)
  case atStart => exact ⟨0, rfl, Nat.zero_le _, Below.refl _ _, fun r h => absurd h (Nat.not_lt_zero _)⟩
  case round =>
    obtain ⟨j, rfl, hj, hb, hall⟩ := hrel
    by_cases hjl : j < n
    · obtain ⟨x, hx⟩ : ∃ x, ks[j]? = some x := ⟨_, List.getElem?_eq_getElem (by have := HN.out; omega)⟩
      obtain ⟨g1, o1, rfl, hg1, _, f1⟩ := HS.out j x hx
      have f1 := (hb.cell (p := ⟨g1, o1 + j, none⟩) hg1).trans f1
      have hg1r : g1 < wr.heap.size := Nat.lt_of_lt_of_le hg1 hb.size
      have cN := hide (fun w => rName_any ⟨x.toArray⟩ w (by rw [mkSize]; exact HK.out x (List.mem_of_getElem? hx)))
      rw [mkData] at cN
      have HX := hide hx
      clear hx
      have hnx : upAt ks j = true → Hid (∀ r, r < j + 1 → upAt ks r = true) := fun hu r hr => by
        rcases Nat.lt_or_ge r j with h | h
        · exact hall.out r h
        · obtain rfl : r = j := by omega
          exact hu
      have hbad : upAt ks j = false → Hid (R = false) := fun hu => by
        show R = false
        rw [← HR.out]; exact risingK_bad (by have := HN.out; omega) hu
      have hji : (j : Int) < (n : Int) := by omega
      have HNX := hide hnx; have HBAD := hide hbad
      clear hnx hbad hall
      rcases Bool.eq_false_or_eq_true (isName x) with gn | gn
      · rw [gn] at cN
        rcases Nat.eq_zero_or_pos j with h0 | h0
        · subst h0
          have HG := HNX.out (by rw [upAt_zero HX.out, gn])
          clear HNX HBAD gn
          simp only [Nat.add_zero] at f1
          have hz0 : decide ((0 : Int) < ((0 : Nat) : Int)) = false := rfl
          go_wp2_with fail
          go_quiet (first | (go_at_call 102; exact Calls.quiet_of ((cN.out _).mono fun e w' h => ⟨h.1, 0, h.2.symm⟩)))
          go_wp2_with fail
          go_roundw
          case rel => exact ⟨1, by go_num, by omega, below_drewN hb _, HG⟩
          case measure => simp [intOf]; omega
        · obtain ⟨i, hi⟩ : ∃ i, j = i + 1 := ⟨j - 1, by omega⟩
          obtain ⟨y, hy⟩ : ∃ y, ks[i]? = some y := ⟨_, List.getElem?_eq_getElem (by have := HN.out; omega)⟩
          obtain ⟨g2, o2, he2, hg2, _, f2⟩ := HS.out i y hy
          injection he2 with he2
          injection he2 with he2 he3 _
          subst he2; subst he3
          have f2 := (hb.cell (p := ⟨g1, o1 + i, none⟩) hg1).trans f2
          have HU := hide (show upAt ks j = (isName x && Op.bytesLess y x) by rw [hi]; exact upAt_succ (by rw [← hi]; exact HX.out) hy)
          have e1 : ((j : Int) - 1) = (i : Int) := by omega
          have e0 : decide ((0 : Int) < (j : Int)) = true := by simp; omega
          have hil : (i : Int) < (n : Int) := by omega
          have hwr : IntKind.i64.wrap (i : Int) = (i : Int) := by rw [IntWalk.i64_left, IntWalk.wrap64_in _ (by omega)]
          obtain ⟨X, hX⟩ : ∃ X : ByteArray, (⟨x.toArray⟩ : ByteArray) = X := ⟨_, rfl⟩
          obtain ⟨Y, hY⟩ : ∃ Y : ByteArray, (⟨y.toArray⟩ : ByteArray) = Y := ⟨_, rfl⟩
          rw [hX] at f1 cN
          rw [hY] at f2
          obtain ⟨b, hbl⟩ : ∃ b, Op.bytesLess y x = b := ⟨_, rfl⟩
          have hle := bytesLeq X.toList Y.toList
          have hXY : X.toList = x ∧ Y.toList = y := by rw [← hX, ← hY]; exact ⟨by rw [ByteArray.toList_eq], by rw [ByteArray.toList_eq]⟩
          rw [hXY.1, hXY.2, hbl] at hle
          rw [← hXY.1, ← hXY.2] at hle
          obtain ⟨b1, hb1⟩ : ∃ b, Op.bytesLess X.toList Y.toList = b := ⟨_, rfl⟩
          obtain ⟨b2, hb2⟩ : ∃ b, (X.toList == Y.toList) = b := ⟨_, rfl⟩
          rw [hb1, hb2] at hle
          have HGood := hide (fun h : b = true => HNX.out (by rw [HU.out, gn, hbl, h]; rfl))
          have HBad := hide (fun h : b = false => HBAD.out (by rw [HU.out, gn, hbl, h]; rfl))
          have HI := hide hi
          clear hi HU hbl hX hY hXY HNX HBAD gn
          obtain rfl : b = !(b1 || b2) := by rw [hle]; simp
          clear hle
          rcases Bool.eq_false_or_eq_true b1 with e | e <;> rcases Bool.eq_false_or_eq_true b2 with e' | e' <;> subst e <;> subst e' <;>
            first
            | (have HG := HGood.out rfl
               clear HGood HBad
               go_wp2_with fail
               go_quiet (first | (go_at_call 102; exact Calls.quiet_of ((cN.out _).mono fun e w' h => ⟨h.1, 0, h.2.symm⟩)))
               go_wp2_with fail
               go_roundw
               case rel => exact ⟨j + 1, by go_num, by omega, below_drewN hb _, HG⟩
               case measure => simp [intOf]; omega)
            | (have HG := HBad.out rfl
               clear HGood HBad
               go_wp2_with fail
               go_quiet (first | (go_at_call 102; exact Calls.quiet_of ((cN.out _).mono fun e w' h => ⟨h.1, 0, h.2.symm⟩)))
               go_wp2_with fail
               go_ret
               exact ⟨ret_bool HG.out.symm, below_drewN hb _⟩)
      · rw [gn] at cN
        have HG := HBAD.out (by
          cases j with
          | zero => rw [upAt_zero HX.out, gn]
          | succ j =>
            obtain ⟨y, hy⟩ : ∃ y, ks[j]? = some y := ⟨_, List.getElem?_eq_getElem (by have := HN.out; omega)⟩
            rw [upAt_succ HX.out hy, gn]; rfl)
        clear HNX HBAD gn
        go_wp2_with fail
        go_quiet (first | (go_at_call 102; exact Calls.quiet_of ((cN.out _).mono fun e w' h => ⟨h.1, 0, h.2.symm⟩)))
        · go_wp2_with fail
          go_ret
          exact ⟨ret_bool HG.out.symm, below_drewN hb _⟩
    · obtain rfl : j = n := by omega
      have HG := hide (show true = R by rw [← HR.out]; exact (risingK_good (fun r hr => hall.out r (by have := HN.out; omega))).symm)
      have hjf : decide ((j : Int) < (j : Int)) = false := by simp
      clear hall
      go_wp2_with fail
      go_ret
      exact ⟨ret_bool HG.out, hb⟩
end Go.Proofs.YtdnmgpidfjkiaaaDoor
