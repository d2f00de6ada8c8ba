/-
  muslinref01.Lower.
-/
import Derived.Test.YtnepogddjinpoaaGreatDoorOct
import Derived.OwnWalk
import Derived.Deep.OwnRows
namespace Go.Proofs.YtnepogddjinpoaaGreatDoor
open Go.RowKit
set_option linter.unusedVariables false
set_option linter.unusedSimpArgs false

theorem at_dataL (t : ByteArray) (k : Nat) (h : k < t.size) : t.data.toList[k]? = some (t[k]'h) := by
  rw [List.getElem?_eq_getElem (by rw [size_list]; exact h)]; rfl
theorem info_octL : (Tryz.prog.info? 5).map (fun i => (i.zero, i.size, i.bytes)) = some (some (.int .u8 0), 1, 1) := by kernel_rfl
theorem grow_stepL {w wr w1 : World} {B k size : Nat} {e : TypeId} {v : Value} {xs : List Value} {o : Obj} (hown : wr.ownsRow B e size v k xs) (hb : Below B w wr) (hB : B ≤ wr.heap.size) (hg : (wr.alloc o).grownBy w1 v.ownBlock) : Below B w w1 :=
  (hb.alloc hB o).grown hg (by simp; omega) (fun j hj => (hown.lt j hj).1)
theorem conv_ownL {w : World} {base n : Nat} {v : Value} {l : List UInt8} (h : w.ownsRow base 5 1 v n (bv l)) : (convert 119 9 v).run Tryz.prog w = .ok (.string ⟨l.toArray⟩) w := by
  have h2 := h
  rcases h.2 with ⟨rfl, rfl⟩ | ⟨g, cap, cur, rfl, _⟩
  · exact conv_str 119 9 5 Tryz.underlying119 Tryz.underlying5 Tryz.underlying9 (Reads.of_own h2)
  · exact conv_str 119 9 5 Tryz.underlying119 Tryz.underlying5 Tryz.underlying9 (Reads.of_own h2)
theorem bv_snocL (l : List UInt8) (c : UInt8) (x : Int) (h : x = (c.toNat : Int)) : bv (l ++ [c]) = bv l ++ [.int .u8 x] := by
  rw [h]; simp [bv]
theorem take_mapL (s : ByteArray) (f : UInt8 → UInt8) (k : Nat) (h : k < s.size) : (s.data.toList.map f).take (k + 1) = (s.data.toList.map f).take k ++ [f (s[k]'h)] := by
  rw [List.take_add_one, List.getElem?_map, at_dataL s k h]
  simp

set_option maxHeartbeats 2000000 in
set_option maxRecDepth 100000 in
theorem refLower_anyL (s : ByteArray) (w : World) (hs : s.size ≤ 140737488351232) :
    Calls Tryz.prog 46 #[.string s] w fun e w' => e = .returned (.string ⟨(s.data.toList.map smallB).toArray⟩) ∧ Below w.heap.size w w' := by
  obtain ⟨i0, hi, hz0, hz1, hz2⟩ := info_parts info_octL
  go_enter Tryz.func46, Tryz.ntmps46
  go_wp2
  go_loopw [3, 4] (fun b i wr => ∃ k : Nat, i = .int .i64 (k : Int) ∧ k ≤ s.size ∧ wr.ownsRow w.heap.size 5 1 b k (bv ((s.data.toList.map smallB).take k)) ∧ Below w.heap.size w wr) (fun _ i _ => s.size - (intOf i).toNat)
  case atStart => exact ⟨0, rfl, Nat.zero_le _, World.ownsRow_nil _ _ _ _, Below.refl _ _⟩
  case round =>
    obtain ⟨k, rfl, hk, hown, hb⟩ := hrel
    by_cases hlt : k < s.size
    · obtain ⟨c, hc⟩ : ∃ c, s[k]'hlt = c := ⟨_, rfl⟩
      by_cases h1 : 65 ≤ (c.toNat : Int)
      · by_cases h2 : (c.toNat : Int) ≤ 90
        · have hx := hide (show ((c.toNat : Int) - 65 + 97 : Int) = ((smallB c).toNat : Int) by rw [smallB_yes c (by omega)]; omega)
          go_wp2_with (at_builtin; refine wpList_append_own _ rfl _ _ 119 rfl w.heap.size 5 i0 (.int .u8 0) 1 1 Tryz.underlying119 hi hz0 hz1 hz2 rfl (by decide) _ _ _ rfl (hown.alloc _) ⟨wr.heap.size, 0, none⟩ 1 1 [.int .u8 ((c.toNat : Int) - 65 + 97)] rfl rfl (by intro j u hj; match j, hj with | 0, hj => simp at hj; subst hj; simp [Addr.add]) (by intro u hu; simp at hu; subst hu; rfl) (by unfold maxLen; omega) (by omega) (by have := hb.size; simp; omega) ?_)
          intro v' w1 hown' hgrow _
          have hb' := grow_stepL hown hb hb.size hgrow
          have HO := hide (show w1.ownsRow w.heap.size 5 1 v' (k + 1) (bv ((s.data.toList.map smallB).take (k + 1))) by rw [take_mapL s smallB k hlt, hc, bv_snocL _ _ _ hx.out]; exact hown')
          clear hown' hgrow hown hx
          go_wp2
          go_roundw
          case rel => exact ⟨k + 1, by go_num, by omega, HO, hb'⟩
          case measure => simp [intOf]; omega
        · have h2' : decide ((c.toNat : Int) ≤ 90) = false := by simpa using h2
          have hx := hide (show ((c.toNat : Int) : Int) = ((smallB c).toNat : Int) by rw [smallB_no c (by omega)])
          go_wp2_with (at_builtin; refine wpList_append_own _ rfl _ _ 119 rfl w.heap.size 5 i0 (.int .u8 0) 1 1 Tryz.underlying119 hi hz0 hz1 hz2 rfl (by decide) _ _ _ rfl (hown.alloc _) ⟨wr.heap.size, 0, none⟩ 1 1 [.int .u8 ((c.toNat : Int))] rfl rfl (by intro j u hj; match j, hj with | 0, hj => simp at hj; subst hj; simp [Addr.add]) (by intro u hu; simp at hu; subst hu; rfl) (by unfold maxLen; omega) (by omega) (by have := hb.size; simp; omega) ?_)
          intro v' w1 hown' hgrow _
          have hb' := grow_stepL hown hb hb.size hgrow
          have HO := hide (show w1.ownsRow w.heap.size 5 1 v' (k + 1) (bv ((s.data.toList.map smallB).take (k + 1))) by rw [take_mapL s smallB k hlt, hc, bv_snocL _ _ _ hx.out]; exact hown')
          clear hown' hgrow hown hx
          go_wp2
          go_roundw
          case rel => exact ⟨k + 1, by go_num, by omega, HO, hb'⟩
          case measure => simp [intOf]; omega
      · have h1' : decide (65 ≤ (c.toNat : Int)) = false := by simpa using h1
        have h3 : (c.toNat : Int) < 65 := by omega
        have hx := hide (show ((c.toNat : Int) : Int) = ((smallB c).toNat : Int) by rw [smallB_no c (by omega)])
        go_wp2_with (at_builtin; refine wpList_append_own _ rfl _ _ 119 rfl w.heap.size 5 i0 (.int .u8 0) 1 1 Tryz.underlying119 hi hz0 hz1 hz2 rfl (by decide) _ _ _ rfl (hown.alloc _) ⟨wr.heap.size, 0, none⟩ 1 1 [.int .u8 ((c.toNat : Int))] rfl rfl (by intro j u hj; match j, hj with | 0, hj => simp at hj; subst hj; simp [Addr.add]) (by intro u hu; simp at hu; subst hu; rfl) (by unfold maxLen; omega) (by omega) (by have := hb.size; simp; omega) ?_)
        intro v' w1 hown' hgrow _
        have hb' := grow_stepL hown hb hb.size hgrow
        have HO := hide (show w1.ownsRow w.heap.size 5 1 v' (k + 1) (bv ((s.data.toList.map smallB).take (k + 1))) by rw [take_mapL s smallB k hlt, hc, bv_snocL _ _ _ hx.out]; exact hown')
        clear hown' hgrow hown hx
        go_wp2
        go_roundw
        case rel => exact ⟨k + 1, by go_num, by omega, HO, hb'⟩
        case measure => simp [intOf]; omega
    · have hk2 : k = s.size := by omega
      subst hk2
      have hcv := conv_ownL hown
      rw [List.take_of_length_le (by rw [List.length_map, size_list]; exact Nat.le_refl _)] at hcv
      go_wp2
      go_ret
      exact ⟨rfl, hb⟩

theorem refLow_any (l : List UInt8) (w : World) (hl : l.length ≤ 1000000000) :
    Calls Tryz.prog 46 #[.string ⟨l.toArray⟩] w fun e w' => e = .returned (.string ⟨(l.map smallB).toArray⟩) ∧ Below w.heap.size w w' :=
  refLower_anyL ⟨l.toArray⟩ w (by rw [mk_size]; omega)
end Go.Proofs.YtnepogddjinpoaaGreatDoor
