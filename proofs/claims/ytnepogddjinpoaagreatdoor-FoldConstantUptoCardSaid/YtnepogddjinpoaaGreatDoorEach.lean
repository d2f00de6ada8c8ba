/-
  utf.each, its closure, utf.Repair.
-/
import Derived.RangeFuncNested
import Derived.RangeFuncBound
import Derived.RangeFuncCalls
import Derived.RangeFuncLeaves
import Derived.Shelf.Abstract
import Derived.Shelf.RegionOpen
import Derived.WalkKit
import Derived.OwnWalkIn
import Derived.TacticsInMore
import Derived.LoopNIn
import Derived.LoopIn
import Derived.Test.YtnepogddjinpoaaGreatDoorRune
import Derived.Test.YtnepogddjinpoaaGreatDoorStr
import Derived.Test.YtnepogddjinpoaaGreatDoorBytes
import Derived.Test.YtnepogddjinpoaaGreatDoorRangeOwn
namespace Go.Proofs.YtnepogddjinpoaaGreatDoor
open Go.RowKit Go.Shelf
attribute [local go_sem] Oper.semAt_some
set_option linter.unusedVariables false
set_option linter.unusedSimpArgs false

theorem runeCells_good {c : Int} (h : badC c = false) : Lib.runeCells c = Lib.byteCells (encL c) := by
  rw [encL_good h]
  obtain ⟨h1, h2⟩ := good_nat h
  generalize c.toNat = v at h1
  subst h1
  unfold badC at h
  simp at h
  unfold Lib.runeCells Lib.byteCells encR
  by_cases g1 : v < 128
  · rw [if_pos g1, Lib.encodeRuneZ_one (by omega) (by omega)]
    simp [u8_toNat (show v < 256 by omega)]
  · rw [if_neg g1]
    by_cases g2 : v < 2048
    · rw [if_pos g2, Lib.encodeRuneZ_two (by omega) (by omega)]
      simp [u8_toNat (show 192 + v / 64 < 256 by omega), u8_toNat (show 128 + v % 64 < 256 by omega)]
    · rw [if_neg g2]
      by_cases g3 : v < 65536
      · rw [if_pos g3, Lib.encodeRuneZ_three (by omega)]
        simp [u8_toNat (show 224 + v / 4096 < 256 by omega), u8_toNat (show 128 + v / 64 % 64 < 256 by omega), u8_toNat (show 128 + v % 64 < 256 by omega)]
      · rw [if_neg g3, Lib.encodeRuneZ_four (by omega) (by omega)]
        simp [u8_toNat (show 240 + v / 262144 < 256 by omega), u8_toNat (show 128 + v / 4096 % 64 < 256 by omega), u8_toNat (show 128 + v / 64 % 64 < 256 by omega), u8_toNat (show 128 + v % 64 < 256 by omega)]
theorem grown_of_below {U V : World} (hb : Below U.heap.size U V) : U.grownBy V none := ⟨hb.os, hb.tape, hb.output, hb.size, fun k hk _ => hb.block k hk⟩
theorem fixC_no2 {c : Int} (h : ¬ c ≤ 0) : fixC c = c := by unfold fixC; rw [if_neg h]
theorem fixC_yes2 {c : Int} (h : c ≤ 0) : fixC c = 65533 := by unfold fixC; rw [if_pos h]
/-- How many octets the cell at p holds. -/
def cellLen (p : Nat) (w : World) : Nat := match w.cell? ⟨p, 0, none⟩ with
  | some (.string s) => s.size
  | _ => 0
/-- What a round of utf.each keeps. -/
def KpE (p : Nat) (wB U V : World) : Prop := V.heap[p]? = U.heap[p]? ∧ Below wB.heap.size U V
set_option maxHeartbeats 4000000 in
set_option maxRecDepth 100000 in
theorem each_stores (n : Nat) (hn : 2 ≤ n) (p : Nat) (l : List UInt8) (hz : l.length ≤ 1000000000) (wB w0 : World) (hT : Lib.Utf8Tabs 1 2 wB) (hB0 : Below wB.heap.size wB w0) (hp : wB.heap.size ≤ p)
    (h0 : Blk w0 p 9 #[.string ⟨l.toArray⟩]) :
    SeqStores Fence.wide n Tryz.prog 207 #[.pointer (some ⟨p, 0, none⟩)] (fun c : Int => .int .i64 c) p (charsR l) (KpE p wB) w0 := by
  intro lp J W hW hJb hJs hY hJ0
  have h1 : 1 ≤ n := by omega
  have hW0 : Blk W p 9 #[.string ⟨l.toArray⟩] := h0.below hW h0.lt
  have hBW : Below wB.heap.size wB W := hB0.trans (hW.mono hB0.size)
  refine callsIn_of_wp Tryz.func207 rfl trivial ?_ rfl
  simp only [Tryz.ntmps207, List.size_toArray, List.length_cons, List.length_nil, Nat.reduceAdd, Nat.reduceSub, Array.replicate_succ, Array.replicate_zero, List.push_toArray, List.append_toArray, List.nil_append, List.cons_append]
  gi_wp2
  gi_loopw [3] (fun _ wr => ∃ (r : List UInt8) (pre : List Int), r.length ≤ l.length ∧ charsR l = pre ++ charsR r ∧ J pre wr ∧ Blk wr p 9 #[.string ⟨r.toArray⟩] ∧ Below wB.heap.size wB wr) (fun _ wr => cellLen p wr)
  case atStart => exact ⟨l, [], Nat.le_refl _, rfl, hJ0, hW0, hBW⟩
  case round =>
    obtain ⟨r, pre, hrl, hx, hJ, hbk, hBr⟩ := hrel
    have hc := hbk.cell 0
    have hf := hbk.frozen 0
    simp at hc
    have hlt := hbk.lt
    by_cases hr : r = []
    · subst hr
      rw [charsR_nil, List.append_nil] at hx
      subst hx
      gi_wp2
      go_end0
      exact ⟨⟨_, rfl⟩, hJ⟩
    · have hre : r.isEmpty = false := by simp [hr]
      have cD := utfDecode_any r wr (Utf8Tabs_below hT hBr)
      have hd := decR_pos r hr
      have hcc := charsR_cons r hr
      have hkd := decR_kind r
      generalize decR r = d at cD hd hcc hkd
      obtain ⟨c, m⟩ := d
      simp only at cD hd hcc hkd
      have hrz : (r.length : Int) ≤ 1000000000 := by omega
      have hm1 : (m : Int) ≤ (r.length : Int) := by omega
      have hm0 : (0 : Int) ≤ (m : Int) := by omega
      have hex : (⟨r.toArray⟩ : ByteArray).extract m r.length = ⟨(r.drop m).toArray⟩ := by
        have := Lib.extract_from (⟨r.toArray⟩ : ByteArray) m
        rw [mk_size] at this
        exact this
      have cD := hide cD
      clear hr
      gi_wp2_with (refine ⟨trivial, ?_⟩; gi_at_call 208; refine (callsIn_wide.2 cD.out).mono ?_)
      rintro e w1 ⟨rfl, hb1⟩
      have hJ1 := hJb _ _ _ hJ (grown_of_below hb1)
      have hbk1 := hbk.below hb1 hlt
      have hB1 := hBr.trans (hb1.mono hBr.size)
      by_cases hc0 : c ≤ 0
      · have hxx : charsR l = pre ++ 65533 :: charsR (r.drop m) := by rw [hx, hcc, fixC_yes2 hc0]
        obtain ⟨fn, tmps, assign, body, hy, hR⟩ := hY pre 65533 _ w1 hxx hJ1
        try dsimp only at hy
        gi_wp2
        refine hR.mono ?_
        rintro e W3 ⟨rfl, hJ3, hk3, hkB⟩
        have hbk3 : Blk W3 p 9 #[.string ⟨r.toArray⟩] := hk3.trans hbk1
        have c3 := hbk3.cell 0
        have f3 := hbk3.frozen 0
        simp at c3
        have hB3 := hB1.trans (hkB.mono (Nat.le_refl _))
        gi_wp2
        go_roundw
        case rel => exact ⟨r.drop m, pre ++ [65533], by simp; omega, by rw [hxx]; simp, hJs _ _ _ hJ3, by simpa [hex] using hbk3.set_ 0 (.string ⟨(r.drop m).toArray⟩), hB3.setCell (p := ⟨p, 0, none⟩) hp _⟩
        case measure =>
          have e1 : cellLen p wr = r.length := by unfold cellLen; rw [hc]; exact mk_size r
          have e2 : cellLen p (W3.setCell ⟨p, 0, none⟩ (.string ⟨(r.drop m).toArray⟩)) = (r.drop m).length := by
            have := (hbk3.set_ 0 (.string ⟨(r.drop m).toArray⟩)).cell 0
            simp at this
            unfold cellLen; rw [this]; exact mk_size _
          rw [e1]
          first | (rw [e2, List.length_drop]; omega) | (rw [hex, e2, List.length_drop]; omega)
      · have hxx : charsR l = pre ++ c :: charsR (r.drop m) := by rw [hx, hcc, fixC_no2 hc0]
        obtain ⟨fn, tmps, assign, body, hy, hR⟩ := hY pre c _ w1 hxx hJ1
        try dsimp only at hy
        gi_wp2
        refine hR.mono ?_
        rintro e W3 ⟨rfl, hJ3, hk3, hkB⟩
        have hbk3 : Blk W3 p 9 #[.string ⟨r.toArray⟩] := hk3.trans hbk1
        have c3 := hbk3.cell 0
        have f3 := hbk3.frozen 0
        simp at c3
        have hB3 := hB1.trans (hkB.mono (Nat.le_refl _))
        gi_wp2
        go_roundw
        case rel => exact ⟨r.drop m, pre ++ [c], by simp; omega, by rw [hxx]; simp, hJs _ _ _ hJ3, by simpa [hex] using hbk3.set_ 0 (.string ⟨(r.drop m).toArray⟩), hB3.setCell (p := ⟨p, 0, none⟩) hp _⟩
        case measure =>
          have e1 : cellLen p wr = r.length := by unfold cellLen; rw [hc]; exact mk_size r
          have e2 : cellLen p (W3.setCell ⟨p, 0, none⟩ (.string ⟨(r.drop m).toArray⟩)) = (r.drop m).length := by
            have := (hbk3.set_ 0 (.string ⟨(r.drop m).toArray⟩)).cell 0
            simp at this
            unfold cellLen; rw [this]; exact mk_size _
          rw [e1]
          first | (rw [e2, List.length_drop]; omega) | (rw [hex, e2, List.length_drop]; omega)
end Go.Proofs.YtnepogddjinpoaaGreatDoor
