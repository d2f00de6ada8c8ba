/-
  PLAIN LAWS of many texts, in one.
-/
import Derived.Test.YtnepogddjinpoaaGreatDoorRefLow
import Derived.Test.YtnepogddjinpoaaGreatDoorC1
import Derived.Test.YtnepogddjinpoaaGreatDoorC3
namespace Go.Proofs.YtnepogddjinpoaaGreatDoor
open Go.RowKit
set_option linter.unusedVariables false
set_option linter.unusedSimpArgs false

set_option maxHeartbeats 2000000 in
set_option maxRecDepth 100000 in
theorem refUpper_anyL (s : ByteArray) (w : World) (hs : s.size ≤ 140737488351232) :
    Calls Tryz.prog 45 #[.string s] w fun e w' => e = .returned (.string ⟨(s.data.toList.map greatB).toArray⟩) ∧ Below w.heap.size w w' := by
  obtain ⟨i0, hi, hz0, hz1, hz2⟩ := info_parts info_octL
  go_enter Tryz.func45, Tryz.ntmps45
  go_wp2
  go_loopw [3, 4] (fun b i wr => ∃ k : Nat, i = .int .i64 (k : Int) ∧ k ≤ s.size ∧ wr.ownsRow w.heap.size 5 1 b k (bv ((s.data.toList.map greatB).take k)) ∧ Below w.heap.size w wr) (fun _ i _ => s.size - (intOf i).toNat)
  case atStart => exact ⟨0, rfl, Nat.zero_le _, World.ownsRow_nil _ _ _ _, Below.refl _ _⟩
  case round =>
    obtain ⟨k, rfl, hk, hown, hb⟩ := hrel
    by_cases hlt : k < s.size
    · obtain ⟨c, hc⟩ : ∃ c, s[k]'hlt = c := ⟨_, rfl⟩
      by_cases h1 : 97 ≤ (c.toNat : Int)
      · by_cases h2 : (c.toNat : Int) ≤ 122
        · have hx := hide (show ((c.toNat : Int) - 97 + 65 : Int) = ((greatB c).toNat : Int) by rw [greatB_yes c (by omega)]; omega)
          go_wp2_with (at_builtin; refine wpList_append_own _ rfl _ _ 119 rfl w.heap.size 5 i0 (.int .u8 0) 1 1 Tryz.underlying119 hi hz0 hz1 hz2 rfl (by decide) _ _ _ rfl (hown.alloc _) ⟨wr.heap.size, 0, none⟩ 1 1 [.int .u8 ((c.toNat : Int) - 97 + 65)] rfl rfl (by intro j u hj; match j, hj with | 0, hj => simp at hj; subst hj; simp [Addr.add]) (by intro u hu; simp at hu; subst hu; rfl) (by unfold maxLen; omega) (by omega) (by have := hb.size; simp; omega) ?_)
          intro v' w1 hown' hgrow _
          have hb' := grow_stepL hown hb hb.size hgrow
          have HO := hide (show w1.ownsRow w.heap.size 5 1 v' (k + 1) (bv ((s.data.toList.map greatB).take (k + 1))) by rw [take_mapL s greatB k hlt, hc, bv_snocL _ _ _ hx.out]; exact hown')
          clear hown' hgrow hown hx
          go_wp2
          go_roundw
          case rel => exact ⟨k + 1, by go_num, by omega, HO, hb'⟩
          case measure => simp [intOf]; omega
        · have h2' : decide ((c.toNat : Int) ≤ 122) = false := by simpa using h2
          have hx := hide (show ((c.toNat : Int) : Int) = ((greatB c).toNat : Int) by rw [greatB_no c (by omega)])
          go_wp2_with (at_builtin; refine wpList_append_own _ rfl _ _ 119 rfl w.heap.size 5 i0 (.int .u8 0) 1 1 Tryz.underlying119 hi hz0 hz1 hz2 rfl (by decide) _ _ _ rfl (hown.alloc _) ⟨wr.heap.size, 0, none⟩ 1 1 [.int .u8 ((c.toNat : Int))] rfl rfl (by intro j u hj; match j, hj with | 0, hj => simp at hj; subst hj; simp [Addr.add]) (by intro u hu; simp at hu; subst hu; rfl) (by unfold maxLen; omega) (by omega) (by have := hb.size; simp; omega) ?_)
          intro v' w1 hown' hgrow _
          have hb' := grow_stepL hown hb hb.size hgrow
          have HO := hide (show w1.ownsRow w.heap.size 5 1 v' (k + 1) (bv ((s.data.toList.map greatB).take (k + 1))) by rw [take_mapL s greatB k hlt, hc, bv_snocL _ _ _ hx.out]; exact hown')
          clear hown' hgrow hown hx
          go_wp2
          go_roundw
          case rel => exact ⟨k + 1, by go_num, by omega, HO, hb'⟩
          case measure => simp [intOf]; omega
      · have h1' : decide (97 ≤ (c.toNat : Int)) = false := by simpa using h1
        have h3 : (c.toNat : Int) < 97 := by omega
        have hx := hide (show ((c.toNat : Int) : Int) = ((greatB c).toNat : Int) by rw [greatB_no c (by omega)])
        go_wp2_with (at_builtin; refine wpList_append_own _ rfl _ _ 119 rfl w.heap.size 5 i0 (.int .u8 0) 1 1 Tryz.underlying119 hi hz0 hz1 hz2 rfl (by decide) _ _ _ rfl (hown.alloc _) ⟨wr.heap.size, 0, none⟩ 1 1 [.int .u8 ((c.toNat : Int))] rfl rfl (by intro j u hj; match j, hj with | 0, hj => simp at hj; subst hj; simp [Addr.add]) (by intro u hu; simp at hu; subst hu; rfl) (by unfold maxLen; omega) (by omega) (by have := hb.size; simp; omega) ?_)
        intro v' w1 hown' hgrow _
        have hb' := grow_stepL hown hb hb.size hgrow
        have HO := hide (show w1.ownsRow w.heap.size 5 1 v' (k + 1) (bv ((s.data.toList.map greatB).take (k + 1))) by rw [take_mapL s greatB k hlt, hc, bv_snocL _ _ _ hx.out]; exact hown')
        clear hown' hgrow hown hx
        go_wp2
        go_roundw
        case rel => exact ⟨k + 1, by go_num, by omega, HO, hb'⟩
        case measure => simp [intOf]; omega
    · have hk2 : k = s.size := by omega
      subst hk2
      have hcv := conv_ownL hown
      rw [List.take_of_length_le (by rw [List.length_map, size_list]; exact Nat.le_refl _)] at hcv
      go_wp2
      go_ret
      exact ⟨rfl, hb⟩
end Go.Proofs.YtnepogddjinpoaaGreatDoor

namespace Go.Proofs.YtnepogddjinpoaaGreatDoor
open Go.RowKit
set_option linter.unusedVariables false
set_option linter.unusedSimpArgs false

set_option maxHeartbeats 2000000 in
set_option maxRecDepth 100000 in
theorem cCall_bad (s : ByteArray) (a : Option Addr) (n c : Nat) (w : World) (p q : Int) (h : arityB s = (p, q, false)) :
    Calls Tryz.prog 25 #[.string s, .slice a n c] w fun e w' => e = .returned (.tuple #[vFlat 0 0 ⟨#[]⟩, .int .i64 31]) ∧ Below w.heap.size w w' := by
  have cA := hide (fun W => cArity s W)
  rw [h] at cA
  clear h
  go_enter Tryz.func25, Tryz.ntmps25
  go_wp2_with fail
  refine name_world fun W hW => ?_
  have C1 : Chg [] w W := by subst hW; (repeat' (first | with_reducible exact Chg.refl _ _ | with_reducible refine Chg.alloc ?_ _ | with_reducible refine Chg.drew ?_ | with_reducible refine Chg.drewN ?_ _ | with_reducible refine Chg.set_ ?_ _ _ (by first | (simp; done) | (simp; omega) | omega)))
  have KR : Blk W w.heap.size 26 (vCells 0 0 ⟨#[]⟩ none 0 0 none 0 0) := by subst hW; (repeat' (first | with_reducible exact Blk.new_ (by first | rfl | (simp; done) | (simp; omega)) | with_reducible refine Blk.alloc_ ?_ | with_reducible refine Blk.drew ?_ | with_reducible refine Blk.drewN ?_ _ | with_reducible refine Blk.far_ ?_ (by first | (simp; done) | (simp; omega) | omega) | with_reducible apply Blk.set_eq | rfl))
  clear hW
  refine (cA.out W).mono ?_
  rintro e w1 ⟨rfl, rfl⟩
  have C2 := C1
  clear C1
  have HC2 := hide C2
  have HR := hide KR
  have r0 := KR.cell 0; have r1 := KR.cell 1; have r2 := KR.cell 2; have r3 := KR.cell 3; have r4 := KR.cell 4; simp at r0 r1 r2 r3 r4
  have z0 := KR.frozen 0; have z1 := KR.frozen 1; have z2 := KR.frozen 2; have z3 := KR.frozen 3; have z4 := KR.frozen 4
  have lR := KR.lt
  clear KR C2
  go_wp2_with fail
  refine name_postO fun V hV => ?_
  have C3 : Chg [w.heap.size] W V := by subst hV; (repeat' (first | with_reducible exact Chg.refl _ _ | with_reducible refine Chg.alloc ?_ _ | with_reducible refine Chg.drew ?_ | with_reducible refine Chg.drewN ?_ _ | with_reducible refine Chg.set_ ?_ _ _ (by first | (simp; done) | (simp; omega) | omega)))
  have K2 : Blk V w.heap.size 26 (vCells 0 0 ⟨#[]⟩ none 0 0 none 0 0) := by subst hV; (repeat' (first | with_reducible exact HR.out | with_reducible exact Blk.new_ (by first | rfl | (simp; done) | (simp; omega)) | with_reducible refine Blk.alloc_ ?_ | with_reducible refine Blk.drew ?_ | with_reducible refine Blk.drewN ?_ _ | with_reducible refine Blk.far_ ?_ (by first | (simp; done) | (simp; omega) | omega) | with_reducible apply Blk.set_eq | rfl))
  clear r0 r1 r2 r3 r4 z0 z1 z2 z3 z4
  have k0 := K2.cell 0; have k1 := K2.cell 1; have k2 := K2.cell 2; have k3 := K2.cell 3; have k4 := K2.cell 4; simp at k0 k1 k2 k3 k4
  clear hV K2
  simp [bodyPost, results, Tryz.results25, go_sem, k0, k1, k2, k3, k4]
  exact ((HC2.out.mono (S' := [w.heap.size]) (by simp)).trans C3 (by simp) |>.mono (S' := []) (by intro x hx; simp at hx; subst hx; exact .inr (Nat.le_refl _))).bel

set_option maxHeartbeats 2000000 in
set_option maxRecDepth 100000 in
theorem cCall_less (s : ByteArray) (a : Option Addr) (n c : Nat) (w : World) (p q : Int) (h : arityB s = (p, q, true)) (hc : (n : Int) < p) :
    Calls Tryz.prog 25 #[.string s, .slice a n c] w fun e w' => e = .returned (.tuple #[vFlat 0 0 ⟨#[]⟩, .int .i64 3]) ∧ Below w.heap.size w w' := by
  have cA := hide (fun W => cArity s W)
  rw [h] at cA
  clear h
  have d1 : decide ((n : Int) < p) = true := by simpa using hc
  go_enter Tryz.func25, Tryz.ntmps25
  go_wp2_with fail
  refine name_world fun W hW => ?_
  have C1 : Chg [] w W := by subst hW; (repeat' (first | with_reducible exact Chg.refl _ _ | with_reducible refine Chg.alloc ?_ _ | with_reducible refine Chg.drew ?_ | with_reducible refine Chg.drewN ?_ _ | with_reducible refine Chg.set_ ?_ _ _ (by first | (simp; done) | (simp; omega) | omega)))
  have KR : Blk W w.heap.size 26 (vCells 0 0 ⟨#[]⟩ none 0 0 none 0 0) := by subst hW; (repeat' (first | with_reducible exact Blk.new_ (by first | rfl | (simp; done) | (simp; omega)) | with_reducible refine Blk.alloc_ ?_ | with_reducible refine Blk.drew ?_ | with_reducible refine Blk.drewN ?_ _ | with_reducible refine Blk.far_ ?_ (by first | (simp; done) | (simp; omega) | omega) | with_reducible apply Blk.set_eq | rfl))
  clear hW
  refine (cA.out W).mono ?_
  rintro e w1 ⟨rfl, rfl⟩
  have C2 := C1
  clear C1
  have HC2 := hide C2
  have HR := hide KR
  have r0 := KR.cell 0; have r1 := KR.cell 1; have r2 := KR.cell 2; have r3 := KR.cell 3; have r4 := KR.cell 4; simp at r0 r1 r2 r3 r4
  have z0 := KR.frozen 0; have z1 := KR.frozen 1; have z2 := KR.frozen 2; have z3 := KR.frozen 3; have z4 := KR.frozen 4
  have lR := KR.lt
  clear KR C2
  go_wp2_with fail
  refine name_postO fun V hV => ?_
  have C3 : Chg [w.heap.size] W V := by subst hV; (repeat' (first | with_reducible exact Chg.refl _ _ | with_reducible refine Chg.alloc ?_ _ | with_reducible refine Chg.drew ?_ | with_reducible refine Chg.drewN ?_ _ | with_reducible refine Chg.set_ ?_ _ _ (by first | (simp; done) | (simp; omega) | omega)))
  have K2 : Blk V w.heap.size 26 (vCells 0 0 ⟨#[]⟩ none 0 0 none 0 0) := by subst hV; (repeat' (first | with_reducible exact HR.out | with_reducible exact Blk.new_ (by first | rfl | (simp; done) | (simp; omega)) | with_reducible refine Blk.alloc_ ?_ | with_reducible refine Blk.drew ?_ | with_reducible refine Blk.drewN ?_ _ | with_reducible refine Blk.far_ ?_ (by first | (simp; done) | (simp; omega) | omega) | with_reducible apply Blk.set_eq | rfl))
  clear r0 r1 r2 r3 r4 z0 z1 z2 z3 z4
  have k0 := K2.cell 0; have k1 := K2.cell 1; have k2 := K2.cell 2; have k3 := K2.cell 3; have k4 := K2.cell 4; simp at k0 k1 k2 k3 k4
  clear hV K2
  simp [bodyPost, results, Tryz.results25, go_sem, k0, k1, k2, k3, k4]
  exact ((HC2.out.mono (S' := [w.heap.size]) (by simp)).trans C3 (by simp) |>.mono (S' := []) (by intro x hx; simp at hx; subst hx; exact .inr (Nat.le_refl _))).bel

set_option maxHeartbeats 2000000 in
set_option maxRecDepth 100000 in
theorem cCall_more (s : ByteArray) (a : Option Addr) (n c : Nat) (w : World) (p q : Int) (h : arityB s = (p, q, true)) (hc : q < (n : Int)) (hp : ¬ (n : Int) < p) :
    Calls Tryz.prog 25 #[.string s, .slice a n c] w fun e w' => e = .returned (.tuple #[vFlat 0 0 ⟨#[]⟩, .int .i64 3]) ∧ Below w.heap.size w w' := by
  have cA := hide (fun W => cArity s W)
  rw [h] at cA
  clear h
  have d2 : decide (q < (n : Int)) = true := by simpa using hc
  have d1 : decide ((n : Int) < p) = false := by simpa using hp
  go_enter Tryz.func25, Tryz.ntmps25
  go_wp2_with fail
  refine name_world fun W hW => ?_
  have C1 : Chg [] w W := by subst hW; (repeat' (first | with_reducible exact Chg.refl _ _ | with_reducible refine Chg.alloc ?_ _ | with_reducible refine Chg.drew ?_ | with_reducible refine Chg.drewN ?_ _ | with_reducible refine Chg.set_ ?_ _ _ (by first | (simp; done) | (simp; omega) | omega)))
  have KR : Blk W w.heap.size 26 (vCells 0 0 ⟨#[]⟩ none 0 0 none 0 0) := by subst hW; (repeat' (first | with_reducible exact Blk.new_ (by first | rfl | (simp; done) | (simp; omega)) | with_reducible refine Blk.alloc_ ?_ | with_reducible refine Blk.drew ?_ | with_reducible refine Blk.drewN ?_ _ | with_reducible refine Blk.far_ ?_ (by first | (simp; done) | (simp; omega) | omega) | with_reducible apply Blk.set_eq | rfl))
  clear hW
  refine (cA.out W).mono ?_
  rintro e w1 ⟨rfl, rfl⟩
  have C2 := C1
  clear C1
  have HC2 := hide C2
  have HR := hide KR
  have r0 := KR.cell 0; have r1 := KR.cell 1; have r2 := KR.cell 2; have r3 := KR.cell 3; have r4 := KR.cell 4; simp at r0 r1 r2 r3 r4
  have z0 := KR.frozen 0; have z1 := KR.frozen 1; have z2 := KR.frozen 2; have z3 := KR.frozen 3; have z4 := KR.frozen 4
  have lR := KR.lt
  clear KR C2
  go_wp2_with fail
  refine name_postO fun V hV => ?_
  have C3 : Chg [w.heap.size] W V := by subst hV; (repeat' (first | with_reducible exact Chg.refl _ _ | with_reducible refine Chg.alloc ?_ _ | with_reducible refine Chg.drew ?_ | with_reducible refine Chg.drewN ?_ _ | with_reducible refine Chg.set_ ?_ _ _ (by first | (simp; done) | (simp; omega) | omega)))
  have K2 : Blk V w.heap.size 26 (vCells 0 0 ⟨#[]⟩ none 0 0 none 0 0) := by subst hV; (repeat' (first | with_reducible exact HR.out | with_reducible exact Blk.new_ (by first | rfl | (simp; done) | (simp; omega)) | with_reducible refine Blk.alloc_ ?_ | with_reducible refine Blk.drew ?_ | with_reducible refine Blk.drewN ?_ _ | with_reducible refine Blk.far_ ?_ (by first | (simp; done) | (simp; omega) | omega) | with_reducible apply Blk.set_eq | rfl))
  clear r0 r1 r2 r3 r4 z0 z1 z2 z3 z4
  have k0 := K2.cell 0; have k1 := K2.cell 1; have k2 := K2.cell 2; have k3 := K2.cell 3; have k4 := K2.cell 4; simp at k0 k1 k2 k3 k4
  clear hV K2
  simp [bodyPost, results, Tryz.results25, go_sem, k0, k1, k2, k3, k4]
  exact ((HC2.out.mono (S' := [w.heap.size]) (by simp)).trans C3 (by simp) |>.mono (S' := []) (by intro x hx; simp at hx; subst hx; exact .inr (Nat.le_refl _))).bel

set_option maxHeartbeats 2000000 in
set_option maxRecDepth 100000 in
theorem cCall_len (k i : Int) (s : ByteArray) (a : Option Addr) (n c : Nat) (a2 : Option Addr) (n2 c2 : Nat) (b off cap : Nat) (w : World) (hb : b < w.heap.size) (h5 : Five w b off k i s a n c a2 n2 c2) (m : Int) (hq : lenC k s n = (m, 0)) :
    Calls Tryz.prog 25 #[.string ⟨#[108, 101, 110]⟩, .slice (some ⟨b, off, none⟩) 1 cap] w fun e w' => e = .returned (.tuple #[vFlat 3 m ⟨#[]⟩, .int .i64 0]) ∧ Below w.heap.size w w' := by
  have eA : arityB ⟨#[108, 101, 110]⟩ = (1, 1, true) := by decide +kernel
  have cA := hide (fun W => cArity ⟨#[108, 101, 110]⟩ W)
  rw [eA] at cA
  clear eA
  have cL := hide (fun W => cLen k i s a n c a2 n2 c2 W)
  rw [hq] at cL
  clear hq
  have cI := hide (fun W => cInt m W)
  go_enter Tryz.func25, Tryz.ntmps25
  go_wp2_with fail
  refine name_world fun W hW => ?_
  have C1 : Chg [] w W := by subst hW; (repeat' (first | with_reducible exact Chg.refl _ _ | with_reducible refine Chg.alloc ?_ _ | with_reducible refine Chg.drew ?_ | with_reducible refine Chg.drewN ?_ _ | with_reducible refine Chg.set_ ?_ _ _ (by first | (simp; done) | (simp; omega) | omega)))
  have KR : Blk W w.heap.size 26 (vCells 0 0 ⟨#[]⟩ none 0 0 none 0 0) := by subst hW; (repeat' (first | with_reducible exact Blk.new_ (by first | rfl | (simp; done) | (simp; omega)) | with_reducible refine Blk.alloc_ ?_ | with_reducible refine Blk.drew ?_ | with_reducible refine Blk.drewN ?_ _ | with_reducible refine Blk.far_ ?_ (by first | (simp; done) | (simp; omega) | omega) | with_reducible apply Blk.set_eq | rfl))
  clear hW
  refine (cA.out W).mono ?_
  rintro e w1 ⟨rfl, rfl⟩
  obtain ⟨g0, g1, g2, g3, g4⟩ := h5.on (C1.block b hb (by simp))
  have hbW := Nat.lt_of_lt_of_le hb C1.size
  clear h5
  go_wp2_with fail
  refine name_world fun W2 hW2 => ?_
  have C12 : Chg [] W W2 := by subst hW2; (repeat' (first | with_reducible exact Chg.refl _ _ | with_reducible refine Chg.alloc ?_ _ | with_reducible refine Chg.drew ?_ | with_reducible refine Chg.drewN ?_ _ | with_reducible refine Chg.set_ ?_ _ _ (by first | (simp; done) | (simp; omega) | omega)))
  have KA : Blk W2 W.heap.size 26 (vCells k i s a n c a2 n2 c2) := by subst hW2; (repeat' (first | with_reducible exact Blk.new_ (by first | rfl | (simp; done) | (simp; omega)) | with_reducible refine Blk.alloc_ ?_ | with_reducible refine Blk.drew ?_ | with_reducible refine Blk.drewN ?_ _ | with_reducible refine Blk.far_ ?_ (by first | (simp; done) | (simp; omega) | omega) | with_reducible apply Blk.set_eq | rfl))
  have C2 := C1.trans C12 (by simp)
  have KR := KR.chg C12 (by simp)
  clear hW2 C12 C1 g0 g1 g2 g3 g4 hbW
  refine (cL.out W2).mono ?_
  rintro e w3 ⟨rfl, hb1⟩
  have C2 := C2.trans (Chg.of_below (S := []) hb1) (by simp)
  have KR := KR.chg (Chg.of_below (S := []) hb1) (by simp)
  clear hb1
  go_wp2_with fail
  refine (cI.out w3).mono ?_
  rintro e w4 ⟨rfl, hb1⟩
  have C2 := C2.trans (Chg.of_below (S := []) hb1) (by simp)
  have KR := KR.chg (Chg.of_below (S := []) hb1) (by simp)
  clear hb1
  have HC2 := hide C2
  have HR := hide KR
  have r0 := KR.cell 0; have r1 := KR.cell 1; have r2 := KR.cell 2; have r3 := KR.cell 3; have r4 := KR.cell 4; simp at r0 r1 r2 r3 r4
  have z0 := KR.frozen 0; have z1 := KR.frozen 1; have z2 := KR.frozen 2; have z3 := KR.frozen 3; have z4 := KR.frozen 4
  have lR := KR.lt
  clear KR C2
  go_wp2_with fail
  refine name_postO fun W hW => ?_
  have C3 : Chg [w.heap.size] w4 W := by subst hW; (repeat' (first | with_reducible exact Chg.refl _ _ | with_reducible refine Chg.alloc ?_ _ | with_reducible refine Chg.drew ?_ | with_reducible refine Chg.drewN ?_ _ | with_reducible refine Chg.set_ ?_ _ _ (by first | (simp; done) | (simp; omega) | omega)))
  have K2 : Blk W w.heap.size 26 (vCells 3 m ⟨#[]⟩ none 0 0 none 0 0) := by subst hW; (repeat' (first | with_reducible exact HR.out | with_reducible exact Blk.new_ (by first | rfl | (simp; done) | (simp; omega)) | with_reducible refine Blk.alloc_ ?_ | with_reducible refine Blk.drew ?_ | with_reducible refine Blk.drewN ?_ _ | with_reducible refine Blk.far_ ?_ (by first | (simp; done) | (simp; omega) | omega) | with_reducible apply Blk.set_eq | rfl))
  clear r0 r1 r2 r3 r4 z0 z1 z2 z3 z4
  have k0 := K2.cell 0; have k1 := K2.cell 1; have k2 := K2.cell 2; have k3 := K2.cell 3; have k4 := K2.cell 4; simp at k0 k1 k2 k3 k4
  clear hW K2
  simp [bodyPost, results, Tryz.results25, go_sem, k0, k1, k2, k3, k4]
  exact ((HC2.out.mono (S' := [w.heap.size]) (by simp)).trans C3 (by simp) |>.mono (S' := []) (by intro x hx; simp at hx; subst hx; exact .inr (Nat.le_refl _))).bel

set_option maxHeartbeats 2000000 in
set_option maxRecDepth 100000 in
theorem cCall_len_err (k i : Int) (s : ByteArray) (a : Option Addr) (n c : Nat) (a2 : Option Addr) (n2 c2 : Nat) (b off cap : Nat) (w : World) (hb : b < w.heap.size) (h5 : Five w b off k i s a n c a2 n2 c2) (m E : Int) (hq : lenC k s n = (m, E)) (hE : ¬ E = 0) :
    Calls Tryz.prog 25 #[.string ⟨#[108, 101, 110]⟩, .slice (some ⟨b, off, none⟩) 1 cap] w fun e w' => e = .returned (.tuple #[vFlat 0 0 ⟨#[]⟩, .int .i64 E]) ∧ Below w.heap.size w w' := by
  have eA : arityB ⟨#[108, 101, 110]⟩ = (1, 1, true) := by decide +kernel
  have cA := hide (fun W => cArity ⟨#[108, 101, 110]⟩ W)
  rw [eA] at cA
  clear eA
  have cL := hide (fun W => cLen k i s a n c a2 n2 c2 W)
  rw [hq] at cL
  clear hq
  have eE : (E == 0) = false := by simpa using hE
  clear hE
  go_enter Tryz.func25, Tryz.ntmps25
  go_wp2_with fail
  refine name_world fun W hW => ?_
  have C1 : Chg [] w W := by subst hW; (repeat' (first | with_reducible exact Chg.refl _ _ | with_reducible refine Chg.alloc ?_ _ | with_reducible refine Chg.drew ?_ | with_reducible refine Chg.drewN ?_ _ | with_reducible refine Chg.set_ ?_ _ _ (by first | (simp; done) | (simp; omega) | omega)))
  have KR : Blk W w.heap.size 26 (vCells 0 0 ⟨#[]⟩ none 0 0 none 0 0) := by subst hW; (repeat' (first | with_reducible exact Blk.new_ (by first | rfl | (simp; done) | (simp; omega)) | with_reducible refine Blk.alloc_ ?_ | with_reducible refine Blk.drew ?_ | with_reducible refine Blk.drewN ?_ _ | with_reducible refine Blk.far_ ?_ (by first | (simp; done) | (simp; omega) | omega) | with_reducible apply Blk.set_eq | rfl))
  clear hW
  refine (cA.out W).mono ?_
  rintro e w1 ⟨rfl, rfl⟩
  obtain ⟨g0, g1, g2, g3, g4⟩ := h5.on (C1.block b hb (by simp))
  have hbW := Nat.lt_of_lt_of_le hb C1.size
  clear h5
  go_wp2_with fail
  refine name_world fun W2 hW2 => ?_
  have C12 : Chg [] W W2 := by subst hW2; (repeat' (first | with_reducible exact Chg.refl _ _ | with_reducible refine Chg.alloc ?_ _ | with_reducible refine Chg.drew ?_ | with_reducible refine Chg.drewN ?_ _ | with_reducible refine Chg.set_ ?_ _ _ (by first | (simp; done) | (simp; omega) | omega)))
  have KA : Blk W2 W.heap.size 26 (vCells k i s a n c a2 n2 c2) := by subst hW2; (repeat' (first | with_reducible exact Blk.new_ (by first | rfl | (simp; done) | (simp; omega)) | with_reducible refine Blk.alloc_ ?_ | with_reducible refine Blk.drew ?_ | with_reducible refine Blk.drewN ?_ _ | with_reducible refine Blk.far_ ?_ (by first | (simp; done) | (simp; omega) | omega) | with_reducible apply Blk.set_eq | rfl))
  have C2 := C1.trans C12 (by simp)
  have KR := KR.chg C12 (by simp)
  clear hW2 C12 C1 g0 g1 g2 g3 g4 hbW
  refine (cL.out W2).mono ?_
  rintro e w3 ⟨rfl, hb1⟩
  have C2 := C2.trans (Chg.of_below (S := []) hb1) (by simp)
  have KR := KR.chg (Chg.of_below (S := []) hb1) (by simp)
  clear hb1
  have HC2 := hide C2
  have HR := hide KR
  have r0 := KR.cell 0; have r1 := KR.cell 1; have r2 := KR.cell 2; have r3 := KR.cell 3; have r4 := KR.cell 4; simp at r0 r1 r2 r3 r4
  have z0 := KR.frozen 0; have z1 := KR.frozen 1; have z2 := KR.frozen 2; have z3 := KR.frozen 3; have z4 := KR.frozen 4
  have lR := KR.lt
  clear KR C2
  go_wp2_with fail
  refine name_postO fun W hW => ?_
  have C3 : Chg [w.heap.size] w3 W := by subst hW; (repeat' (first | with_reducible exact Chg.refl _ _ | with_reducible refine Chg.alloc ?_ _ | with_reducible refine Chg.drew ?_ | with_reducible refine Chg.drewN ?_ _ | with_reducible refine Chg.set_ ?_ _ _ (by first | (simp; done) | (simp; omega) | omega)))
  have K2 : Blk W w.heap.size 26 (vCells 0 0 ⟨#[]⟩ none 0 0 none 0 0) := by subst hW; (repeat' (first | with_reducible exact HR.out | with_reducible exact Blk.new_ (by first | rfl | (simp; done) | (simp; omega)) | with_reducible refine Blk.alloc_ ?_ | with_reducible refine Blk.drew ?_ | with_reducible refine Blk.drewN ?_ _ | with_reducible refine Blk.far_ ?_ (by first | (simp; done) | (simp; omega) | omega) | with_reducible apply Blk.set_eq | rfl))
  clear r0 r1 r2 r3 r4 z0 z1 z2 z3 z4
  have k0 := K2.cell 0; have k1 := K2.cell 1; have k2 := K2.cell 2; have k3 := K2.cell 3; have k4 := K2.cell 4; simp at k0 k1 k2 k3 k4
  clear hW K2
  simp [bodyPost, results, Tryz.results25, go_sem, k0, k1, k2, k3, k4]
  exact ((HC2.out.mono (S' := [w.heap.size]) (by simp)).trans C3 (by simp) |>.mono (S' := []) (by intro x hx; simp at hx; subst hx; exact .inr (Nat.le_refl _))).bel

set_option maxHeartbeats 2000000 in
set_option maxRecDepth 100000 in
theorem cCall_not (k i : Int) (s : ByteArray) (a : Option Addr) (n c : Nat) (a2 : Option Addr) (n2 c2 : Nat) (b off cap : Nat) (w : World) (hb : b < w.heap.size) (h5 : Five w b off k i s a n c a2 n2 c2) :
    Calls Tryz.prog 25 #[.string ⟨#[110, 111, 116]⟩, .slice (some ⟨b, off, none⟩) 1 cap] w fun e w' => e = .returned (.tuple #[vFlat (if !truthC k i s n then 2 else 1) 0 ⟨#[]⟩, .int .i64 0]) ∧ Below w.heap.size w w' := by
  have eA : arityB ⟨#[110, 111, 116]⟩ = (1, 1, true) := by decide +kernel
  have cA := hide (fun W => cArity ⟨#[110, 111, 116]⟩ W)
  rw [eA] at cA
  clear eA
  have e_len : ((⟨#[110, 111, 116]⟩ : ByteArray) == ⟨#[108, 101, 110]⟩) = false := by decide +kernel
  have cT := hide (fun W => cValTruth k i s a n c a2 n2 c2 W)
  obtain ⟨q, hq⟩ : ∃ q, truthC k i s n = q := ⟨_, rfl⟩
  rw [hq] at cT
  rw [hq]
  clear hq
  have cR := hide (fun W => cTruth (!q) W)
  obtain ⟨kk, hkk⟩ : ∃ kk : Int, (if !q then (2 : Int) else 1) = kk := ⟨_, rfl⟩
  rw [hkk]
  rw [hkk] at cR
  clear hkk
  go_enter Tryz.func25, Tryz.ntmps25
  go_wp2_with fail
  refine name_world fun W hW => ?_
  have C1 : Chg [] w W := by subst hW; (repeat' (first | with_reducible exact Chg.refl _ _ | with_reducible refine Chg.alloc ?_ _ | with_reducible refine Chg.drew ?_ | with_reducible refine Chg.drewN ?_ _ | with_reducible refine Chg.set_ ?_ _ _ (by first | (simp; done) | (simp; omega) | omega)))
  have KR : Blk W w.heap.size 26 (vCells 0 0 ⟨#[]⟩ none 0 0 none 0 0) := by subst hW; (repeat' (first | with_reducible exact Blk.new_ (by first | rfl | (simp; done) | (simp; omega)) | with_reducible refine Blk.alloc_ ?_ | with_reducible refine Blk.drew ?_ | with_reducible refine Blk.drewN ?_ _ | with_reducible refine Blk.far_ ?_ (by first | (simp; done) | (simp; omega) | omega) | with_reducible apply Blk.set_eq | rfl))
  clear hW
  refine (cA.out W).mono ?_
  rintro e w1 ⟨rfl, rfl⟩
  obtain ⟨g0, g1, g2, g3, g4⟩ := h5.on (C1.block b hb (by simp))
  have hbW := Nat.lt_of_lt_of_le hb C1.size
  clear h5
  go_wp2_with fail
  refine name_world fun W2 hW2 => ?_
  have C12 : Chg [] W W2 := by subst hW2; (repeat' (first | with_reducible exact Chg.refl _ _ | with_reducible refine Chg.alloc ?_ _ | with_reducible refine Chg.drew ?_ | with_reducible refine Chg.drewN ?_ _ | with_reducible refine Chg.set_ ?_ _ _ (by first | (simp; done) | (simp; omega) | omega)))
  have KA : Blk W2 W.heap.size 26 (vCells k i s a n c a2 n2 c2) := by subst hW2; (repeat' (first | with_reducible exact Blk.new_ (by first | rfl | (simp; done) | (simp; omega)) | with_reducible refine Blk.alloc_ ?_ | with_reducible refine Blk.drew ?_ | with_reducible refine Blk.drewN ?_ _ | with_reducible refine Blk.far_ ?_ (by first | (simp; done) | (simp; omega) | omega) | with_reducible apply Blk.set_eq | rfl))
  have C2 := C1.trans C12 (by simp)
  have KR := KR.chg C12 (by simp)
  clear hW2 C12 C1 g0 g1 g2 g3 g4 hbW
  refine (cT.out W2).mono ?_
  rintro e w3 ⟨rfl, hb1⟩
  have C2 := C2.trans (Chg.of_below (S := []) hb1) (by simp)
  have KR := KR.chg (Chg.of_below (S := []) hb1) (by simp)
  clear hb1
  go_wp2_with fail
  refine (cR.out w3).mono ?_
  rintro e w4 ⟨rfl, hb1⟩
  have C2 := C2.trans (Chg.of_below (S := []) hb1) (by simp)
  have KR := KR.chg (Chg.of_below (S := []) hb1) (by simp)
  clear hb1
  have HC2 := hide C2
  have HR := hide KR
  have r0 := KR.cell 0; have r1 := KR.cell 1; have r2 := KR.cell 2; have r3 := KR.cell 3; have r4 := KR.cell 4; simp at r0 r1 r2 r3 r4
  have z0 := KR.frozen 0; have z1 := KR.frozen 1; have z2 := KR.frozen 2; have z3 := KR.frozen 3; have z4 := KR.frozen 4
  have lR := KR.lt
  clear KR C2
  go_wp2_with fail
  refine name_postO fun W hW => ?_
  have C3 : Chg [w.heap.size] w4 W := by subst hW; (repeat' (first | with_reducible exact Chg.refl _ _ | with_reducible refine Chg.alloc ?_ _ | with_reducible refine Chg.drew ?_ | with_reducible refine Chg.drewN ?_ _ | with_reducible refine Chg.set_ ?_ _ _ (by first | (simp; done) | (simp; omega) | omega)))
  have K2 : Blk W w.heap.size 26 (vCells kk 0 ⟨#[]⟩ none 0 0 none 0 0) := by subst hW; (repeat' (first | with_reducible exact HR.out | with_reducible exact Blk.new_ (by first | rfl | (simp; done) | (simp; omega)) | with_reducible refine Blk.alloc_ ?_ | with_reducible refine Blk.drew ?_ | with_reducible refine Blk.drewN ?_ _ | with_reducible refine Blk.far_ ?_ (by first | (simp; done) | (simp; omega) | omega) | with_reducible apply Blk.set_eq | rfl))
  clear r0 r1 r2 r3 r4 z0 z1 z2 z3 z4
  have k0 := K2.cell 0; have k1 := K2.cell 1; have k2 := K2.cell 2; have k3 := K2.cell 3; have k4 := K2.cell 4; simp at k0 k1 k2 k3 k4
  clear hW K2
  simp [bodyPost, results, Tryz.results25, go_sem, k0, k1, k2, k3, k4]
  exact ((HC2.out.mono (S' := [w.heap.size]) (by simp)).trans C3 (by simp) |>.mono (S' := []) (by intro x hx; simp at hx; subst hx; exact .inr (Nat.le_refl _))).bel

set_option maxHeartbeats 2000000 in
set_option maxRecDepth 100000 in
theorem cCall_upper (k i : Int) (s : ByteArray) (a : Option Addr) (n c : Nat) (a2 : Option Addr) (n2 c2 : Nat) (b off cap : Nat) (w : World) (hb : b < w.heap.size) (h5 : Five w b off k i s a n c a2 n2 c2) (hk : k = 4) (hs : s.size ≤ 140737488351232) :
    Calls Tryz.prog 25 #[.string ⟨#[117, 112, 112, 101, 114]⟩, .slice (some ⟨b, off, none⟩) 1 cap] w fun e w' => e = .returned (.tuple #[vFlat 4 0 ⟨(s.data.toList.map greatB).toArray⟩, .int .i64 0]) ∧ Below w.heap.size w w' := by
  have eA : arityB ⟨#[117, 112, 112, 101, 114]⟩ = (1, 1, true) := by decide +kernel
  have cA := hide (fun W => cArity ⟨#[117, 112, 112, 101, 114]⟩ W)
  rw [eA] at cA
  clear eA
  have e_len : ((⟨#[117, 112, 112, 101, 114]⟩ : ByteArray) == ⟨#[108, 101, 110]⟩) = false := by decide +kernel
  have e_not : ((⟨#[117, 112, 112, 101, 114]⟩ : ByteArray) == ⟨#[110, 111, 116]⟩) = false := by decide +kernel
  have e_print : ((⟨#[117, 112, 112, 101, 114]⟩ : ByteArray) == ⟨#[112, 114, 105, 110, 116]⟩) = false := by decide +kernel
  subst hk
  have cU := hide (fun W => refUpper_anyL s W hs)
  obtain ⟨t, ht⟩ : ∃ t : ByteArray, (⟨(s.data.toList.map greatB).toArray⟩ : ByteArray) = t := ⟨_, rfl⟩
  rw [ht]
  simp only [ht] at cU
  have cX := hide (fun W => cText t W)
  clear ht hs
  go_enter Tryz.func25, Tryz.ntmps25
  go_wp2_with fail
  refine name_world fun W hW => ?_
  have C1 : Chg [] w W := by subst hW; (repeat' (first | with_reducible exact Chg.refl _ _ | with_reducible refine Chg.alloc ?_ _ | with_reducible refine Chg.drew ?_ | with_reducible refine Chg.drewN ?_ _ | with_reducible refine Chg.set_ ?_ _ _ (by first | (simp; done) | (simp; omega) | omega)))
  have KR : Blk W w.heap.size 26 (vCells 0 0 ⟨#[]⟩ none 0 0 none 0 0) := by subst hW; (repeat' (first | with_reducible exact Blk.new_ (by first | rfl | (simp; done) | (simp; omega)) | with_reducible refine Blk.alloc_ ?_ | with_reducible refine Blk.drew ?_ | with_reducible refine Blk.drewN ?_ _ | with_reducible refine Blk.far_ ?_ (by first | (simp; done) | (simp; omega) | omega) | with_reducible apply Blk.set_eq | rfl))
  clear hW
  refine (cA.out W).mono ?_
  rintro e w1 ⟨rfl, rfl⟩
  obtain ⟨g0, g1, g2, g3, g4⟩ := h5.on (C1.block b hb (by simp))
  have hbW := Nat.lt_of_lt_of_le hb C1.size
  clear h5
  go_wp2_with fail
  refine name_world fun W2 hW2 => ?_
  have C12 : Chg [] W W2 := by subst hW2; (repeat' (first | with_reducible exact Chg.refl _ _ | with_reducible refine Chg.alloc ?_ _ | with_reducible refine Chg.drew ?_ | with_reducible refine Chg.drewN ?_ _ | with_reducible refine Chg.set_ ?_ _ _ (by first | (simp; done) | (simp; omega) | omega)))
  have KA : Blk W2 W.heap.size 26 (vCells 4 i s a n c a2 n2 c2) := by subst hW2; (repeat' (first | with_reducible exact Blk.new_ (by first | rfl | (simp; done) | (simp; omega)) | with_reducible refine Blk.alloc_ ?_ | with_reducible refine Blk.drew ?_ | with_reducible refine Blk.drewN ?_ _ | with_reducible refine Blk.far_ ?_ (by first | (simp; done) | (simp; omega) | omega) | with_reducible apply Blk.set_eq | rfl))
  have C2 := C1.trans C12 (by simp)
  have KR := KR.chg C12 (by simp)
  clear hW2 C12 C1 g0 g1 g2 g3 g4 hbW
  refine (cU.out W2).mono ?_
  rintro e w3 ⟨rfl, hb1⟩
  have C2 := C2.trans (Chg.of_below (S := []) hb1) (by simp)
  have KR := KR.chg (Chg.of_below (S := []) hb1) (by simp)
  clear hb1
  go_wp2_with fail
  refine (cX.out w3).mono ?_
  rintro e w4 ⟨rfl, hb1⟩
  have C2 := C2.trans (Chg.of_below (S := []) hb1) (by simp)
  have KR := KR.chg (Chg.of_below (S := []) hb1) (by simp)
  clear hb1
  have HC2 := hide C2
  have HR := hide KR
  have r0 := KR.cell 0; have r1 := KR.cell 1; have r2 := KR.cell 2; have r3 := KR.cell 3; have r4 := KR.cell 4; simp at r0 r1 r2 r3 r4
  have z0 := KR.frozen 0; have z1 := KR.frozen 1; have z2 := KR.frozen 2; have z3 := KR.frozen 3; have z4 := KR.frozen 4
  have lR := KR.lt
  clear KR C2
  go_wp2_with fail
  refine name_postO fun W hW => ?_
  have C3 : Chg [w.heap.size] w4 W := by subst hW; (repeat' (first | with_reducible exact Chg.refl _ _ | with_reducible refine Chg.alloc ?_ _ | with_reducible refine Chg.drew ?_ | with_reducible refine Chg.drewN ?_ _ | with_reducible refine Chg.set_ ?_ _ _ (by first | (simp; done) | (simp; omega) | omega)))
  have K2 : Blk W w.heap.size 26 (vCells 4 0 t none 0 0 none 0 0) := by subst hW; (repeat' (first | with_reducible exact HR.out | with_reducible exact Blk.new_ (by first | rfl | (simp; done) | (simp; omega)) | with_reducible refine Blk.alloc_ ?_ | with_reducible refine Blk.drew ?_ | with_reducible refine Blk.drewN ?_ _ | with_reducible refine Blk.far_ ?_ (by first | (simp; done) | (simp; omega) | omega) | with_reducible apply Blk.set_eq | rfl))
  clear r0 r1 r2 r3 r4 z0 z1 z2 z3 z4
  have k0 := K2.cell 0; have k1 := K2.cell 1; have k2 := K2.cell 2; have k3 := K2.cell 3; have k4 := K2.cell 4; simp at k0 k1 k2 k3 k4
  clear hW K2
  simp [bodyPost, results, Tryz.results25, go_sem, k0, k1, k2, k3, k4]
  exact ((HC2.out.mono (S' := [w.heap.size]) (by simp)).trans C3 (by simp) |>.mono (S' := []) (by intro x hx; simp at hx; subst hx; exact .inr (Nat.le_refl _))).bel

set_option maxHeartbeats 2000000 in
set_option maxRecDepth 100000 in
theorem cCall_upper_odd (k i : Int) (s : ByteArray) (a : Option Addr) (n c : Nat) (a2 : Option Addr) (n2 c2 : Nat) (b off cap : Nat) (w : World) (hb : b < w.heap.size) (h5 : Five w b off k i s a n c a2 n2 c2) (hk : ¬ k = 4) :
    Calls Tryz.prog 25 #[.string ⟨#[117, 112, 112, 101, 114]⟩, .slice (some ⟨b, off, none⟩) 1 cap] w fun e w' => e = .returned (.tuple #[vFlat 0 0 ⟨#[]⟩, .int .i64 13]) ∧ Below w.heap.size w w' := by
  have eA : arityB ⟨#[117, 112, 112, 101, 114]⟩ = (1, 1, true) := by decide +kernel
  have cA := hide (fun W => cArity ⟨#[117, 112, 112, 101, 114]⟩ W)
  rw [eA] at cA
  clear eA
  have e_len : ((⟨#[117, 112, 112, 101, 114]⟩ : ByteArray) == ⟨#[108, 101, 110]⟩) = false := by decide +kernel
  have e_not : ((⟨#[117, 112, 112, 101, 114]⟩ : ByteArray) == ⟨#[110, 111, 116]⟩) = false := by decide +kernel
  have e_print : ((⟨#[117, 112, 112, 101, 114]⟩ : ByteArray) == ⟨#[112, 114, 105, 110, 116]⟩) = false := by decide +kernel
  have ek : (k == 4) = false := by simpa using hk
  clear hk
  go_enter Tryz.func25, Tryz.ntmps25
  go_wp2_with fail
  refine name_world fun W hW => ?_
  have C1 : Chg [] w W := by subst hW; (repeat' (first | with_reducible exact Chg.refl _ _ | with_reducible refine Chg.alloc ?_ _ | with_reducible refine Chg.drew ?_ | with_reducible refine Chg.drewN ?_ _ | with_reducible refine Chg.set_ ?_ _ _ (by first | (simp; done) | (simp; omega) | omega)))
  have KR : Blk W w.heap.size 26 (vCells 0 0 ⟨#[]⟩ none 0 0 none 0 0) := by subst hW; (repeat' (first | with_reducible exact Blk.new_ (by first | rfl | (simp; done) | (simp; omega)) | with_reducible refine Blk.alloc_ ?_ | with_reducible refine Blk.drew ?_ | with_reducible refine Blk.drewN ?_ _ | with_reducible refine Blk.far_ ?_ (by first | (simp; done) | (simp; omega) | omega) | with_reducible apply Blk.set_eq | rfl))
  clear hW
  refine (cA.out W).mono ?_
  rintro e w1 ⟨rfl, rfl⟩
  obtain ⟨g0, g1, g2, g3, g4⟩ := h5.on (C1.block b hb (by simp))
  have hbW := Nat.lt_of_lt_of_le hb C1.size
  clear h5
  have C2 := C1
  clear C1
  have HC2 := hide C2
  have HR := hide KR
  have r0 := KR.cell 0; have r1 := KR.cell 1; have r2 := KR.cell 2; have r3 := KR.cell 3; have r4 := KR.cell 4; simp at r0 r1 r2 r3 r4
  have z0 := KR.frozen 0; have z1 := KR.frozen 1; have z2 := KR.frozen 2; have z3 := KR.frozen 3; have z4 := KR.frozen 4
  have lR := KR.lt
  clear KR C2
  go_wp2_with fail
  refine name_postO fun V hV => ?_
  have C3 : Chg [w.heap.size] W V := by subst hV; (repeat' (first | with_reducible exact Chg.refl _ _ | with_reducible refine Chg.alloc ?_ _ | with_reducible refine Chg.drew ?_ | with_reducible refine Chg.drewN ?_ _ | with_reducible refine Chg.set_ ?_ _ _ (by first | (simp; done) | (simp; omega) | omega)))
  have K2 : Blk V w.heap.size 26 (vCells 0 0 ⟨#[]⟩ none 0 0 none 0 0) := by subst hV; (repeat' (first | with_reducible exact HR.out | with_reducible exact Blk.new_ (by first | rfl | (simp; done) | (simp; omega)) | with_reducible refine Blk.alloc_ ?_ | with_reducible refine Blk.drew ?_ | with_reducible refine Blk.drewN ?_ _ | with_reducible refine Blk.far_ ?_ (by first | (simp; done) | (simp; omega) | omega) | with_reducible apply Blk.set_eq | rfl))
  clear r0 r1 r2 r3 r4 z0 z1 z2 z3 z4
  have k0 := K2.cell 0; have k1 := K2.cell 1; have k2 := K2.cell 2; have k3 := K2.cell 3; have k4 := K2.cell 4; simp at k0 k1 k2 k3 k4
  clear hV K2
  simp [bodyPost, results, Tryz.results25, go_sem, k0, k1, k2, k3, k4]
  exact ((HC2.out.mono (S' := [w.heap.size]) (by simp)).trans C3 (by simp) |>.mono (S' := []) (by intro x hx; simp at hx; subst hx; exact .inr (Nat.le_refl _))).bel

set_option maxHeartbeats 2000000 in
set_option maxRecDepth 100000 in
theorem cCall_lower (k i : Int) (s : ByteArray) (a : Option Addr) (n c : Nat) (a2 : Option Addr) (n2 c2 : Nat) (b off cap : Nat) (w : World) (hb : b < w.heap.size) (h5 : Five w b off k i s a n c a2 n2 c2) (hk : k = 4) (hs : s.size ≤ 140737488351232) :
    Calls Tryz.prog 25 #[.string ⟨#[108, 111, 119, 101, 114]⟩, .slice (some ⟨b, off, none⟩) 1 cap] w fun e w' => e = .returned (.tuple #[vFlat 4 0 ⟨(s.data.toList.map smallB).toArray⟩, .int .i64 0]) ∧ Below w.heap.size w w' := by
  have eA : arityB ⟨#[108, 111, 119, 101, 114]⟩ = (1, 1, true) := by decide +kernel
  have cA := hide (fun W => cArity ⟨#[108, 111, 119, 101, 114]⟩ W)
  rw [eA] at cA
  clear eA
  have e_len : ((⟨#[108, 111, 119, 101, 114]⟩ : ByteArray) == ⟨#[108, 101, 110]⟩) = false := by decide +kernel
  have e_not : ((⟨#[108, 111, 119, 101, 114]⟩ : ByteArray) == ⟨#[110, 111, 116]⟩) = false := by decide +kernel
  have e_print : ((⟨#[108, 111, 119, 101, 114]⟩ : ByteArray) == ⟨#[112, 114, 105, 110, 116]⟩) = false := by decide +kernel
  have e_upper : ((⟨#[108, 111, 119, 101, 114]⟩ : ByteArray) == ⟨#[117, 112, 112, 101, 114]⟩) = false := by decide +kernel
  subst hk
  have cU := hide (fun W => refLower_anyL s W hs)
  obtain ⟨t, ht⟩ : ∃ t : ByteArray, (⟨(s.data.toList.map smallB).toArray⟩ : ByteArray) = t := ⟨_, rfl⟩
  rw [ht]
  simp only [ht] at cU
  have cX := hide (fun W => cText t W)
  clear ht hs
  go_enter Tryz.func25, Tryz.ntmps25
  go_wp2_with fail
  refine name_world fun W hW => ?_
  have C1 : Chg [] w W := by subst hW; (repeat' (first | with_reducible exact Chg.refl _ _ | with_reducible refine Chg.alloc ?_ _ | with_reducible refine Chg.drew ?_ | with_reducible refine Chg.drewN ?_ _ | with_reducible refine Chg.set_ ?_ _ _ (by first | (simp; done) | (simp; omega) | omega)))
  have KR : Blk W w.heap.size 26 (vCells 0 0 ⟨#[]⟩ none 0 0 none 0 0) := by subst hW; (repeat' (first | with_reducible exact Blk.new_ (by first | rfl | (simp; done) | (simp; omega)) | with_reducible refine Blk.alloc_ ?_ | with_reducible refine Blk.drew ?_ | with_reducible refine Blk.drewN ?_ _ | with_reducible refine Blk.far_ ?_ (by first | (simp; done) | (simp; omega) | omega) | with_reducible apply Blk.set_eq | rfl))
  clear hW
  refine (cA.out W).mono ?_
  rintro e w1 ⟨rfl, rfl⟩
  obtain ⟨g0, g1, g2, g3, g4⟩ := h5.on (C1.block b hb (by simp))
  have hbW := Nat.lt_of_lt_of_le hb C1.size
  clear h5
  go_wp2_with fail
  refine name_world fun W2 hW2 => ?_
  have C12 : Chg [] W W2 := by subst hW2; (repeat' (first | with_reducible exact Chg.refl _ _ | with_reducible refine Chg.alloc ?_ _ | with_reducible refine Chg.drew ?_ | with_reducible refine Chg.drewN ?_ _ | with_reducible refine Chg.set_ ?_ _ _ (by first | (simp; done) | (simp; omega) | omega)))
  have KA : Blk W2 W.heap.size 26 (vCells 4 i s a n c a2 n2 c2) := by subst hW2; (repeat' (first | with_reducible exact Blk.new_ (by first | rfl | (simp; done) | (simp; omega)) | with_reducible refine Blk.alloc_ ?_ | with_reducible refine Blk.drew ?_ | with_reducible refine Blk.drewN ?_ _ | with_reducible refine Blk.far_ ?_ (by first | (simp; done) | (simp; omega) | omega) | with_reducible apply Blk.set_eq | rfl))
  have C2 := C1.trans C12 (by simp)
  have KR := KR.chg C12 (by simp)
  clear hW2 C12 C1 g0 g1 g2 g3 g4 hbW
  refine (cU.out W2).mono ?_
  rintro e w3 ⟨rfl, hb1⟩
  have C2 := C2.trans (Chg.of_below (S := []) hb1) (by simp)
  have KR := KR.chg (Chg.of_below (S := []) hb1) (by simp)
  clear hb1
  go_wp2_with fail
  refine (cX.out w3).mono ?_
  rintro e w4 ⟨rfl, hb1⟩
  have C2 := C2.trans (Chg.of_below (S := []) hb1) (by simp)
  have KR := KR.chg (Chg.of_below (S := []) hb1) (by simp)
  clear hb1
  have HC2 := hide C2
  have HR := hide KR
  have r0 := KR.cell 0; have r1 := KR.cell 1; have r2 := KR.cell 2; have r3 := KR.cell 3; have r4 := KR.cell 4; simp at r0 r1 r2 r3 r4
  have z0 := KR.frozen 0; have z1 := KR.frozen 1; have z2 := KR.frozen 2; have z3 := KR.frozen 3; have z4 := KR.frozen 4
  have lR := KR.lt
  clear KR C2
  go_wp2_with fail
  refine name_postO fun W hW => ?_
  have C3 : Chg [w.heap.size] w4 W := by subst hW; (repeat' (first | with_reducible exact Chg.refl _ _ | with_reducible refine Chg.alloc ?_ _ | with_reducible refine Chg.drew ?_ | with_reducible refine Chg.drewN ?_ _ | with_reducible refine Chg.set_ ?_ _ _ (by first | (simp; done) | (simp; omega) | omega)))
  have K2 : Blk W w.heap.size 26 (vCells 4 0 t none 0 0 none 0 0) := by subst hW; (repeat' (first | with_reducible exact HR.out | with_reducible exact Blk.new_ (by first | rfl | (simp; done) | (simp; omega)) | with_reducible refine Blk.alloc_ ?_ | with_reducible refine Blk.drew ?_ | with_reducible refine Blk.drewN ?_ _ | with_reducible refine Blk.far_ ?_ (by first | (simp; done) | (simp; omega) | omega) | with_reducible apply Blk.set_eq | rfl))
  clear r0 r1 r2 r3 r4 z0 z1 z2 z3 z4
  have k0 := K2.cell 0; have k1 := K2.cell 1; have k2 := K2.cell 2; have k3 := K2.cell 3; have k4 := K2.cell 4; simp at k0 k1 k2 k3 k4
  clear hW K2
  simp [bodyPost, results, Tryz.results25, go_sem, k0, k1, k2, k3, k4]
  exact ((HC2.out.mono (S' := [w.heap.size]) (by simp)).trans C3 (by simp) |>.mono (S' := []) (by intro x hx; simp at hx; subst hx; exact .inr (Nat.le_refl _))).bel

set_option maxHeartbeats 2000000 in
set_option maxRecDepth 100000 in
theorem cCall_lower_odd (k i : Int) (s : ByteArray) (a : Option Addr) (n c : Nat) (a2 : Option Addr) (n2 c2 : Nat) (b off cap : Nat) (w : World) (hb : b < w.heap.size) (h5 : Five w b off k i s a n c a2 n2 c2) (hk : ¬ k = 4) :
    Calls Tryz.prog 25 #[.string ⟨#[108, 111, 119, 101, 114]⟩, .slice (some ⟨b, off, none⟩) 1 cap] w fun e w' => e = .returned (.tuple #[vFlat 0 0 ⟨#[]⟩, .int .i64 13]) ∧ Below w.heap.size w w' := by
  have eA : arityB ⟨#[108, 111, 119, 101, 114]⟩ = (1, 1, true) := by decide +kernel
  have cA := hide (fun W => cArity ⟨#[108, 111, 119, 101, 114]⟩ W)
  rw [eA] at cA
  clear eA
  have e_len : ((⟨#[108, 111, 119, 101, 114]⟩ : ByteArray) == ⟨#[108, 101, 110]⟩) = false := by decide +kernel
  have e_not : ((⟨#[108, 111, 119, 101, 114]⟩ : ByteArray) == ⟨#[110, 111, 116]⟩) = false := by decide +kernel
  have e_print : ((⟨#[108, 111, 119, 101, 114]⟩ : ByteArray) == ⟨#[112, 114, 105, 110, 116]⟩) = false := by decide +kernel
  have e_upper : ((⟨#[108, 111, 119, 101, 114]⟩ : ByteArray) == ⟨#[117, 112, 112, 101, 114]⟩) = false := by decide +kernel
  have ek : (k == 4) = false := by simpa using hk
  clear hk
  go_enter Tryz.func25, Tryz.ntmps25
  go_wp2_with fail
  refine name_world fun W hW => ?_
  have C1 : Chg [] w W := by subst hW; (repeat' (first | with_reducible exact Chg.refl _ _ | with_reducible refine Chg.alloc ?_ _ | with_reducible refine Chg.drew ?_ | with_reducible refine Chg.drewN ?_ _ | with_reducible refine Chg.set_ ?_ _ _ (by first | (simp; done) | (simp; omega) | omega)))
  have KR : Blk W w.heap.size 26 (vCells 0 0 ⟨#[]⟩ none 0 0 none 0 0) := by subst hW; (repeat' (first | with_reducible exact Blk.new_ (by first | rfl | (simp; done) | (simp; omega)) | with_reducible refine Blk.alloc_ ?_ | with_reducible refine Blk.drew ?_ | with_reducible refine Blk.drewN ?_ _ | with_reducible refine Blk.far_ ?_ (by first | (simp; done) | (simp; omega) | omega) | with_reducible apply Blk.set_eq | rfl))
  clear hW
  refine (cA.out W).mono ?_
  rintro e w1 ⟨rfl, rfl⟩
  obtain ⟨g0, g1, g2, g3, g4⟩ := h5.on (C1.block b hb (by simp))
  have hbW := Nat.lt_of_lt_of_le hb C1.size
  clear h5
  have C2 := C1
  clear C1
  have HC2 := hide C2
  have HR := hide KR
  have r0 := KR.cell 0; have r1 := KR.cell 1; have r2 := KR.cell 2; have r3 := KR.cell 3; have r4 := KR.cell 4; simp at r0 r1 r2 r3 r4
  have z0 := KR.frozen 0; have z1 := KR.frozen 1; have z2 := KR.frozen 2; have z3 := KR.frozen 3; have z4 := KR.frozen 4
  have lR := KR.lt
  clear KR C2
  go_wp2_with fail
  refine name_postO fun V hV => ?_
  have C3 : Chg [w.heap.size] W V := by subst hV; (repeat' (first | with_reducible exact Chg.refl _ _ | with_reducible refine Chg.alloc ?_ _ | with_reducible refine Chg.drew ?_ | with_reducible refine Chg.drewN ?_ _ | with_reducible refine Chg.set_ ?_ _ _ (by first | (simp; done) | (simp; omega) | omega)))
  have K2 : Blk V w.heap.size 26 (vCells 0 0 ⟨#[]⟩ none 0 0 none 0 0) := by subst hV; (repeat' (first | with_reducible exact HR.out | with_reducible exact Blk.new_ (by first | rfl | (simp; done) | (simp; omega)) | with_reducible refine Blk.alloc_ ?_ | with_reducible refine Blk.drew ?_ | with_reducible refine Blk.drewN ?_ _ | with_reducible refine Blk.far_ ?_ (by first | (simp; done) | (simp; omega) | omega) | with_reducible apply Blk.set_eq | rfl))
  clear r0 r1 r2 r3 r4 z0 z1 z2 z3 z4
  have k0 := K2.cell 0; have k1 := K2.cell 1; have k2 := K2.cell 2; have k3 := K2.cell 3; have k4 := K2.cell 4; simp at k0 k1 k2 k3 k4
  clear hV K2
  simp [bodyPost, results, Tryz.results25, go_sem, k0, k1, k2, k3, k4]
  exact ((HC2.out.mono (S' := [w.heap.size]) (by simp)).trans C3 (by simp) |>.mono (S' := []) (by intro x hx; simp at hx; subst hx; exact .inr (Nat.le_refl _))).bel

set_option maxHeartbeats 2000000 in
set_option maxRecDepth 100000 in
theorem cCall_print (k i : Int) (s : ByteArray) (a : Option Addr) (n c : Nat) (a2 : Option Addr) (n2 c2 : Nat) (b off cap : Nat) (w : World) (hb : b < w.heap.size) (h5 : Five w b off k i s a n c a2 n2 c2) (m : Nat) (hm1 : 1 ≤ m) (hm8 : m ≤ 8) (t : ByteArray) (hS : ∀ W, Below w.heap.size w W → Calls Tryz.prog 44 #[.slice (some ⟨b, off, none⟩) m cap, .string ⟨#[32]⟩] W fun e w' => e = .returned (.string t) ∧ Below W.heap.size W w') :
    Calls Tryz.prog 25 #[.string ⟨#[112, 114, 105, 110, 116]⟩, .slice (some ⟨b, off, none⟩) m cap] w fun e w' => e = .returned (.tuple #[madeV t, .int .i64 (madeE t)]) ∧ Below w.heap.size w w' := by
  have eA : arityB ⟨#[112, 114, 105, 110, 116]⟩ = (1, 8, true) := by decide +kernel
  have cA := hide (fun W => cArity ⟨#[112, 114, 105, 110, 116]⟩ W)
  rw [eA] at cA
  clear eA
  have e_len : ((⟨#[112, 114, 105, 110, 116]⟩ : ByteArray) == ⟨#[108, 101, 110]⟩) = false := by decide +kernel
  have e_not : ((⟨#[112, 114, 105, 110, 116]⟩ : ByteArray) == ⟨#[110, 111, 116]⟩) = false := by decide +kernel
  have cS := hide hS
  have cR := hide (fun W => cMade t W)
  obtain ⟨kz, sz, hz⟩ : ∃ (kz : Int) (sz : ByteArray), madeV t = vFlat kz 0 sz := by unfold madeV; split; exact ⟨_, _, rfl⟩; exact ⟨_, _, rfl⟩
  obtain ⟨ez, he⟩ : ∃ ez, madeE t = ez := ⟨_, rfl⟩
  rw [hz, he]
  rw [hz, he] at cR
  clear hz he hS
  have d1 : decide ((m : Int) < 1) = false := by simp; omega
  have d2 : decide ((8 : Int) < (m : Int)) = false := by simp; omega
  go_enter Tryz.func25, Tryz.ntmps25
  go_wp2_with fail
  refine name_world fun W hW => ?_
  have C1 : Chg [] w W := by subst hW; (repeat' (first | with_reducible exact Chg.refl _ _ | with_reducible refine Chg.alloc ?_ _ | with_reducible refine Chg.drew ?_ | with_reducible refine Chg.drewN ?_ _ | with_reducible refine Chg.set_ ?_ _ _ (by first | (simp; done) | (simp; omega) | omega)))
  have KR : Blk W w.heap.size 26 (vCells 0 0 ⟨#[]⟩ none 0 0 none 0 0) := by subst hW; (repeat' (first | with_reducible exact Blk.new_ (by first | rfl | (simp; done) | (simp; omega)) | with_reducible refine Blk.alloc_ ?_ | with_reducible refine Blk.drew ?_ | with_reducible refine Blk.drewN ?_ _ | with_reducible refine Blk.far_ ?_ (by first | (simp; done) | (simp; omega) | omega) | with_reducible apply Blk.set_eq | rfl))
  clear hW
  refine (cA.out W).mono ?_
  rintro e w1 ⟨rfl, rfl⟩
  obtain ⟨g0, g1, g2, g3, g4⟩ := h5.on (C1.block b hb (by simp))
  have hbW := Nat.lt_of_lt_of_le hb C1.size
  clear h5
  go_wp2_with fail
  refine name_world fun W2 hW2 => ?_
  have C12 : Chg [] W W2 := by subst hW2; (repeat' (first | with_reducible exact Chg.refl _ _ | with_reducible refine Chg.alloc ?_ _ | with_reducible refine Chg.drew ?_ | with_reducible refine Chg.drewN ?_ _ | with_reducible refine Chg.set_ ?_ _ _ (by first | (simp; done) | (simp; omega) | omega)))
  have KA : Blk W2 W.heap.size 26 (vCells k i s a n c a2 n2 c2) := by subst hW2; (repeat' (first | with_reducible exact Blk.new_ (by first | rfl | (simp; done) | (simp; omega)) | with_reducible refine Blk.alloc_ ?_ | with_reducible refine Blk.drew ?_ | with_reducible refine Blk.drewN ?_ _ | with_reducible refine Blk.far_ ?_ (by first | (simp; done) | (simp; omega) | omega) | with_reducible apply Blk.set_eq | rfl))
  have C2 := C1.trans C12 (by simp)
  have KR := KR.chg C12 (by simp)
  clear hW2 C12 C1 g0 g1 g2 g3 g4 hbW
  refine (cS.out W2 C2.bel).mono ?_
  rintro e w3 ⟨rfl, hb1⟩
  have C2 := C2.trans (Chg.of_below (S := []) hb1) (by simp)
  have KR := KR.chg (Chg.of_below (S := []) hb1) (by simp)
  clear hb1
  go_wp2_with fail
  refine (cR.out w3).mono ?_
  rintro e w4 ⟨rfl, hb1⟩
  have C2 := C2.trans (Chg.of_below (S := []) hb1) (by simp)
  have KR := KR.chg (Chg.of_below (S := []) hb1) (by simp)
  clear hb1
  have HC2 := hide C2
  have HR := hide KR
  have r0 := KR.cell 0; have r1 := KR.cell 1; have r2 := KR.cell 2; have r3 := KR.cell 3; have r4 := KR.cell 4; simp at r0 r1 r2 r3 r4
  have z0 := KR.frozen 0; have z1 := KR.frozen 1; have z2 := KR.frozen 2; have z3 := KR.frozen 3; have z4 := KR.frozen 4
  have lR := KR.lt
  clear KR C2
  go_wp2_with fail
  refine name_postO fun W hW => ?_
  have C3 : Chg [w.heap.size] w4 W := by subst hW; (repeat' (first | with_reducible exact Chg.refl _ _ | with_reducible refine Chg.alloc ?_ _ | with_reducible refine Chg.drew ?_ | with_reducible refine Chg.drewN ?_ _ | with_reducible refine Chg.set_ ?_ _ _ (by first | (simp; done) | (simp; omega) | omega)))
  have K2 : Blk W w.heap.size 26 (vCells kz 0 sz none 0 0 none 0 0) := by subst hW; (repeat' (first | with_reducible exact HR.out | with_reducible exact Blk.new_ (by first | rfl | (simp; done) | (simp; omega)) | with_reducible refine Blk.alloc_ ?_ | with_reducible refine Blk.drew ?_ | with_reducible refine Blk.drewN ?_ _ | with_reducible refine Blk.far_ ?_ (by first | (simp; done) | (simp; omega) | omega) | with_reducible apply Blk.set_eq | rfl))
  clear r0 r1 r2 r3 r4 z0 z1 z2 z3 z4
  have k0 := K2.cell 0; have k1 := K2.cell 1; have k2 := K2.cell 2; have k3 := K2.cell 3; have k4 := K2.cell 4; simp at k0 k1 k2 k3 k4
  clear hW K2
  simp [bodyPost, results, Tryz.results25, go_sem, k0, k1, k2, k3, k4]
  exact ((HC2.out.mono (S' := [w.heap.size]) (by simp)).trans C3 (by simp) |>.mono (S' := []) (by intro x hx; simp at hx; subst hx; exact .inr (Nat.le_refl _))).bel

end Go.Proofs.YtnepogddjinpoaaGreatDoor

namespace Go.Proofs.YtnepogddjinpoaaGreatDoor
open Go.RowKit
set_option linter.unusedVariables false
set_option linter.unusedSimpArgs false

theorem two_names (name : List UInt8) (hn : name ∈ [[101, 113], [108, 116], [97, 110, 100], [111, 114], [106, 111, 105, 110], [100, 101, 102, 97, 117, 108, 116], [105, 110, 100, 101, 120]]) (t : List UInt8) (ht : t ∈ [[108, 101, 110], [110, 111, 116], [112, 114, 105, 110, 116], [117, 112, 112, 101, 114], [108, 111, 119, 101, 114]]) : ((⟨name.toArray⟩ : ByteArray).toList == t) = false := by
  rw [ByteArray.toList_eq]
  show (name == t) = false
  simp only [List.mem_cons, List.mem_nil_iff, or_false] at hn ht
  rcases hn with rfl | rfl | rfl | rfl | rfl | rfl | rfl <;> rcases ht with rfl | rfl | rfl | rfl | rfl <;> decide
set_option maxHeartbeats 4000000 in
set_option maxRecDepth 100000 in
theorem cCall_two (n N : Nat) (name : List UInt8) (hn : name ∈ [[101, 113], [108, 116], [97, 110, 100], [111, 114], [106, 111, 105, 110], [100, 101, 102, 97, 117, 108, 116], [105, 110, 100, 101, 120]]) (hR : arityB ⟨name.toArray⟩ = (2, 2, true)) (x y : VD n) (P : Option Addr) (C : Nat) (P2 : Option Addr) (C2 : Nat) (Q : Option Addr) (D : Nat) (Q2 : Option Addr) (D2 : Nat) (b off c : Nat) (w : World) (hN : N ≤ w.heap.size) (hb : b < w.heap.size)
    (h5 : Five w b off x.k x.i ⟨x.s.toArray⟩ P x.l.length C P2 x.ks.length C2) (h5' : Five w b (off + 5) y.k y.i ⟨y.s.toArray⟩ Q y.l.length D Q2 y.ks.length D2)
    (hx : IsV (lowN N) w (n + 1) (valV x.k x.i ⟨x.s.toArray⟩ P x.l.length C P2 x.ks.length C2) x) (hy : IsV (lowN N) w (n + 1) (valV y.k y.i ⟨y.s.toArray⟩ Q y.l.length D Q2 y.ks.length D2) y) (gx : GoodD x) (gy : GoodD y) :
    Calls Tryz.prog 25 #[.string ⟨name.toArray⟩, .slice (some ⟨b, off, none⟩) 2 c] w fun e w' => TellsR N n w (twoR name x y) e w' := by
  have cT := hide (fun W (hW : Below w.heap.size w W) => cTwo_any n N name hn _ _ x y W (Nat.le_trans hN hW.size) (isV_bel hx hW) (isV_bel hy hW) gx gy)
  have f0 := two_names name hn [108, 101, 110] (by simp)
  have f1 := two_names name hn [110, 111, 116] (by simp)
  have f2 := two_names name hn [112, 114, 105, 110, 116] (by simp)
  have f3 := two_names name hn [117, 112, 112, 101, 114] (by simp)
  have f4 := two_names name hn [108, 111, 119, 101, 114] (by simp)
  have cA := hide (fun W => cArity ⟨name.toArray⟩ W)
  rw [hR] at cA
  obtain ⟨kx, ix, sx, lx, qx⟩ := x
  obtain ⟨ky, iy, sy, ly, qy⟩ := y
  simp only at h5 h5' cT
  obtain ⟨nx, hnx⟩ : ∃ nx, lx.length = nx := ⟨_, rfl⟩
  obtain ⟨ny, hny⟩ : ∃ ny, ly.length = ny := ⟨_, rfl⟩
  obtain ⟨mx, hmx⟩ : ∃ mx, qx.length = mx := ⟨_, rfl⟩
  obtain ⟨my, hmy⟩ : ∃ my, qy.length = my := ⟨_, rfl⟩
  obtain ⟨S, hS⟩ : ∃ S : ByteArray, (⟨sx.toArray⟩ : ByteArray) = S := ⟨_, rfl⟩
  obtain ⟨T, hT⟩ : ∃ T : ByteArray, (⟨sy.toArray⟩ : ByteArray) = T := ⟨_, rfl⟩
  obtain ⟨R, hRR⟩ : ∃ R, twoR name (⟨kx, ix, sx, lx, qx⟩ : VD n) ⟨ky, iy, sy, ly, qy⟩ = R := ⟨_, rfl⟩
  obtain ⟨nm, hnm⟩ : ∃ nm : ByteArray, (⟨name.toArray⟩ : ByteArray) = nm := ⟨_, rfl⟩
  rw [hRR]
  simp only [hnx, hny, hmx, hmy, hS, hT, hRR, hnm] at h5 h5' cT cA f0 f1 f2 f3 f4 ⊢
  clear hx hy hn hR gx gy hnx hny hmx hmy hS hT hRR hnm
  go_enter Tryz.func25, Tryz.ntmps25
  go_wp2_with fail
  refine name_world fun W hW => ?_
  have C1 : Chg [] w W := by subst hW; (repeat' (first | with_reducible exact Chg.refl _ _ | with_reducible refine Chg.alloc ?_ _ | with_reducible refine Chg.drew ?_ | with_reducible refine Chg.drewN ?_ _ | with_reducible refine Chg.set_ ?_ _ _ (by first | (simp; done) | (simp; omega) | omega)))
  have KR : Blk W w.heap.size 26 (vCells 0 0 ⟨#[]⟩ none 0 0 none 0 0) := by subst hW; (repeat' (first | with_reducible exact Blk.new_ (by first | rfl | (simp; done) | (simp; omega)) | with_reducible refine Blk.alloc_ ?_ | with_reducible refine Blk.drew ?_ | with_reducible refine Blk.drewN ?_ _ | with_reducible refine Blk.far_ ?_ (by first | (simp; done) | (simp; omega) | omega) | with_reducible apply Blk.set_eq | rfl))
  clear hW
  refine (cA.out W).mono ?_
  rintro e w1 ⟨rfl, rfl⟩
  obtain ⟨g0, g1, g2, g3, g4⟩ := h5.on (C1.block b hb (by simp))
  obtain ⟨u0, u1, u2, u3, u4⟩ := h5'.on (C1.block b hb (by simp))
  have hbW := Nat.lt_of_lt_of_le hb C1.size
  clear h5 h5'
  go_wp2_with fail
  go_region_with (go_at_call 47; go_loud (refine name_world fun Wc hWc => ?_; have CC : Chg [] w Wc := (by subst hWc; (repeat' (first | with_reducible exact C1 | with_reducible exact Chg.refl _ _ | with_reducible refine Chg.alloc ?_ _ | with_reducible refine Chg.drew ?_ | with_reducible refine Chg.drewN ?_ _ | with_reducible refine Chg.set_ ?_ _ _ (by first | (simp; done) | (simp; omega) | omega)))); have KRc : Blk Wc w.heap.size 26 (vCells 0 0 ⟨#[]⟩ none 0 0 none 0 0) := (by subst hWc; (repeat' (first | with_reducible exact KR | with_reducible exact Blk.new_ (by first | rfl | (simp; done) | (simp; omega)) | with_reducible refine Blk.alloc_ ?_ | with_reducible refine Blk.drew ?_ | with_reducible refine Blk.drewN ?_ _ | with_reducible refine Blk.far_ ?_ (by first | (simp; done) | (simp; omega) | omega) | with_reducible apply Blk.set_eq | rfl))); clear hWc; refine (cT.out Wc CC.bel).mono ?_; rintro e w2 ⟨v', rfl, ht, hb2⟩; obtain ⟨kz, iz, sz, az, nz, cz, bz, mz, dz, rfl⟩ := tells_shape ht; have HT := hide ht; have HC2 := hide (CC.below hb2); have KR2 := KRc.chg (Chg.of_below (S := []) hb2) (by simp); have HR := hide KR2; have r0 := KR2.cell 0; have r1 := KR2.cell 1; have r2 := KR2.cell 2; have r3 := KR2.cell 3; have r4 := KR2.cell 4; simp at r0 r1 r2 r3 r4; have z0 := KR2.frozen 0; have z1 := KR2.frozen 1; have z2 := KR2.frozen 2; have z3 := KR2.frozen 3; have z4 := KR2.frozen 4; have lR := KR2.lt; clear KR2 KRc CC hb2 ht))
  all_goals
    go_wp2_with fail
    refine name_postO fun W9 hW => ?_
    have C3 : Chg [w.heap.size] w2 W9 := by subst hW; (repeat' (first | with_reducible exact Chg.refl _ _ | with_reducible refine Chg.alloc ?_ _ | with_reducible refine Chg.drew ?_ | with_reducible refine Chg.drewN ?_ _ | with_reducible refine Chg.set_ ?_ _ _ (by first | (simp; done) | (simp; omega) | omega)))
    have K2 : Blk W9 w.heap.size 26 (vCells kz iz sz az nz cz bz mz dz) := by subst hW; (repeat' (first | with_reducible exact HR.out | with_reducible exact Blk.new_ (by first | rfl | (simp; done) | (simp; omega)) | with_reducible refine Blk.alloc_ ?_ | with_reducible refine Blk.drew ?_ | with_reducible refine Blk.drewN ?_ _ | with_reducible refine Blk.far_ ?_ (by first | (simp; done) | (simp; omega) | omega) | with_reducible apply Blk.set_eq | rfl))
    clear r0 r1 r2 r3 r4 z0 z1 z2 z3 z4
    have k0 := K2.cell 0; have k1 := K2.cell 1; have k2 := K2.cell 2; have k3 := K2.cell 3; have k4 := K2.cell 4; simp at k0 k1 k2 k3 k4
    clear hW K2
    have hTW := tells_chg HT.out C3 (by intro x hx; simp at hx; omega)
    have hBW := ((HC2.out.mono (S' := [w.heap.size]) (by simp)).trans C3 (by simp) |>.mono (S' := []) (by intro x hx; simp at hx; subst hx; exact .inr (Nat.le_refl _))).bel
    simp [bodyPost, results, Tryz.results25, go_sem, k0, k1, k2, k3, k4]
    exact ⟨_, rfl, hTW, hBW⟩
end Go.Proofs.YtnepogddjinpoaaGreatDoor

namespace Go.Proofs.YtnepogddjinpoaaGreatDoor
open Go.RowKit
set_option linter.unusedVariables false
set_option linter.unusedSimpArgs false

theorem arity_kinds (name : List UInt8) (p q : Int) (h : arityB ⟨name.toArray⟩ = (p, q, true)) :
    (p = 1 ∧ q = 1 ∧ name ∈ [[108, 101, 110], [110, 111, 116], [117, 112, 112, 101, 114], [108, 111, 119, 101, 114]]) ∨ (p = 2 ∧ q = 2 ∧ name ∈ [[101, 113], [108, 116], [97, 110, 100], [111, 114], [106, 111, 105, 110], [100, 101, 102, 97, 117, 108, 116], [105, 110, 100, 101, 120]]) ∨ (p = 1 ∧ q = 8 ∧ name = [112, 114, 105, 110, 116]) := by
  unfold arityB at h
  rw [ByteArray.toList_eq] at h
  have e : (⟨name.toArray⟩ : ByteArray).data.toList = name := rfl
  rw [e] at h
  split at h
  · rename_i h1
    injection h with h2 h3
    injection h3 with h3 _
    refine .inl ⟨h2.symm, h3.symm, ?_⟩
    simp only [Bool.or_eq_true, beq_iff_eq] at h1
    simp only [List.mem_cons, List.mem_nil_iff, or_false]
    rcases h1 with ((h1 | h1) | h1) | h1 <;> simp [h1]
  · split at h
    · rename_i h1
      injection h with h2 h3
      injection h3 with h3 _
      refine .inr (.inl ⟨h2.symm, h3.symm, ?_⟩)
      simp only [Bool.or_eq_true, beq_iff_eq] at h1
      simp only [List.mem_cons, List.mem_nil_iff, or_false]
      rcases h1 with (((((h1 | h1) | h1) | h1) | h1) | h1) | h1 <;> simp [h1]
    · split at h
      · rename_i h1
        injection h with h2 h3
        injection h3 with h3 _
        exact .inr (.inr ⟨h2.symm, h3.symm, by simpa using h1⟩)
      · injection h with h2 h3
        injection h3 with h3 h4
        cases h4
theorem val_at {n N : Nat} {w : World} {a : Option Addr} {l : List (VD n)} (h : ValsAt anyB w (IsV (lowN N) w (n + 1)) a l) {j : Nat} {x : VD n} (hx : l[j]? = some x) :
    ∃ b off p c p2 c2, a = some ⟨b, off, none⟩ ∧ b < w.heap.size ∧ Five w b (off + j * 5) x.k x.i ⟨x.s.toArray⟩ p x.l.length c p2 x.ks.length c2 ∧ IsV (lowN N) w (n + 1) (valV x.k x.i ⟨x.s.toArray⟩ p x.l.length c p2 x.ks.length c2) x := by
  obtain ⟨b, off, ha, hb, _, k, i, s, a1, n1, c1, a2, n2, c2, h5, hr⟩ := h j x hx
  have hr2 := hr
  obtain ⟨p, c, p2, c2', hv, _, _⟩ := IsV.parts hr
  simp [valV] at hv
  obtain ⟨rfl, rfl, rfl, ⟨rfl, rfl, rfl⟩, rfl, rfl, rfl⟩ := hv
  exact ⟨b, off, _, _, _, _, ha, hb, h5, hr2⟩
set_option maxRecDepth 100000 in
theorem cCall_any (n N : Nat) (name : List UInt8) (a : Option Addr) (c : Nat) (l : List (VD n)) (w : World) (hN : N ≤ w.heap.size) (hL : ValsAt anyB w (IsV (lowN N) w (n + 1)) a l) (hg : ∀ x ∈ l, GoodD x) :
    Calls Tryz.prog 25 #[.string ⟨name.toArray⟩, .slice a l.length c] w fun e w' => TellsR N n w (callR name l) e w' := by
  obtain ⟨⟨p, q, ok⟩, hR⟩ : ∃ R, arityB ⟨name.toArray⟩ = R := ⟨_, rfl⟩
  cases ok with
  | false =>
    have hC : callR name l = (none, 31) := by simp [callR, hR]
    rw [hC]
    exact (cCall_bad ⟨name.toArray⟩ a l.length c w p q hR).mono fun e w' h => tells_err h
  | true =>
    by_cases h1 : (l.length : Int) < p
    · have hC : callR name l = (none, 3) := by simp [callR, hR, h1]
      rw [hC]
      exact (cCall_less ⟨name.toArray⟩ a l.length c w p q hR h1).mono fun e w' h => tells_err h
    · by_cases h2 : q < (l.length : Int)
      · have hC : callR name l = (none, 3) := by simp [callR, hR, h2]
        rw [hC]
        exact (cCall_more ⟨name.toArray⟩ a l.length c w p q hR h2 h1).mono fun e w' h => tells_err h
      · rcases arity_kinds name p q hR with ⟨rfl, rfl, hn⟩ | ⟨rfl, rfl, hn⟩ | ⟨rfl, rfl, rfl⟩
        · obtain ⟨x, rfl⟩ : ∃ x, l = [x] := by
            match l, h1, h2 with
            | [x], _, _ => exact ⟨x, rfl⟩
            | [], h1, _ => simp at h1
            | _ :: _ :: _, _, h2 => simp at h2; omega
          obtain ⟨b, off, P, C, P2, C2, rfl, hb, h5, hV⟩ := val_at hL (j := 0) rfl
          have gx := hg x (by simp)
          rw [Nat.zero_mul, Nat.add_zero] at h5
          simp only [List.mem_cons, List.mem_nil_iff, or_false] at hn
          rcases hn with rfl | rfl | rfl | rfl
          · by_cases hE : (lenC x.k ⟨x.s.toArray⟩ x.l.length).2 = 0
            · refine (cCall_len x.k x.i ⟨x.s.toArray⟩ P x.l.length C P2 x.ks.length C2 b off c w hb h5 (lenC x.k ⟨x.s.toArray⟩ x.l.length).1 (Prod.ext rfl hE)).mono ?_
              intro e w' h
              rw [show callR [108, 101, 110] [x] = (some (intD (lenC x.k ⟨x.s.toArray⟩ x.l.length).1), 0) by simp [callR, hR, hE]]
              exact tells_flat (s := []) h
            · refine (cCall_len_err x.k x.i ⟨x.s.toArray⟩ P x.l.length C P2 x.ks.length C2 b off c w hb h5 (lenC x.k ⟨x.s.toArray⟩ x.l.length).1 (lenC x.k ⟨x.s.toArray⟩ x.l.length).2 rfl hE).mono ?_
              intro e w' h
              rw [show callR [108, 101, 110] [x] = (none, (lenC x.k ⟨x.s.toArray⟩ x.l.length).2) by simp [callR, hR, hE]]
              exact tells_err h
          · refine (cCall_not x.k x.i ⟨x.s.toArray⟩ P x.l.length C P2 x.ks.length C2 b off c w hb h5).mono ?_
            intro e w' h
            rw [show callR [110, 111, 116] [x] = (some (truthD (!isTrue x)), 0) by simp [callR, hR]]
            exact tells_flat (s := []) h
          · by_cases hk : x.k = 4
            · refine (cCall_upper x.k x.i ⟨x.s.toArray⟩ P x.l.length C P2 x.ks.length C2 b off c w hb h5 hk (by have := (good_len gx).1; have := mkSize x.s; omega)).mono ?_
              intro e w' h
              rw [show callR [117, 112, 112, 101, 114] [x] = (some (textD (x.s.map greatB)), 0) by simp [callR, hR, hk]]
              exact tells_flat h
            · refine (cCall_upper_odd x.k x.i ⟨x.s.toArray⟩ P x.l.length C P2 x.ks.length C2 b off c w hb h5 hk).mono ?_
              intro e w' h
              rw [show callR [117, 112, 112, 101, 114] [x] = (none, 13) by simp [callR, hR, hk]]
              exact tells_err h
          · by_cases hk : x.k = 4
            · refine (cCall_lower x.k x.i ⟨x.s.toArray⟩ P x.l.length C P2 x.ks.length C2 b off c w hb h5 hk (by have := (good_len gx).1; have := mkSize x.s; omega)).mono ?_
              intro e w' h
              rw [show callR [108, 111, 119, 101, 114] [x] = (some (textD (x.s.map smallB)), 0) by simp [callR, hR, hk]]
              exact tells_flat h
            · refine (cCall_lower_odd x.k x.i ⟨x.s.toArray⟩ P x.l.length C P2 x.ks.length C2 b off c w hb h5 hk).mono ?_
              intro e w' h
              rw [show callR [108, 111, 119, 101, 114] [x] = (none, 13) by simp [callR, hR, hk]]
              exact tells_err h
        · obtain ⟨x, y, rfl⟩ : ∃ x y, l = [x, y] := by
            match l, h1, h2 with
            | [x, y], _, _ => exact ⟨x, y, rfl⟩
            | [], h1, _ => simp at h1
            | [_], h1, _ => simp at h1
            | _ :: _ :: _ :: _, _, h2 => simp at h2; omega
          obtain ⟨b, off, P, C, P2, C2, rfl, hb, h5, hV⟩ := val_at hL (j := 0) rfl
          obtain ⟨b', off', Q, D, Q2, D2, hbe, hb', h5', hV'⟩ := val_at hL (j := 1) rfl
          injection hbe with hbe
          injection hbe with hb1 hb2
          subst hb1; subst hb2
          rw [Nat.zero_mul, Nat.add_zero] at h5
          rw [Nat.one_mul] at h5'
          have hC : callR name [x, y] = twoR name x y := by
            simp only [List.mem_cons, List.mem_nil_iff, or_false] at hn
            rcases hn with rfl | rfl | rfl | rfl | rfl | rfl | rfl <;> simp [callR, hR]
          rw [hC]
          exact cCall_two n N name hn hR x y P C P2 C2 Q D Q2 D2 b off c w hN hb h5 h5' hV hV' (hg x (by simp)) (hg y (by simp))
        · obtain ⟨x, t, rfl⟩ : ∃ x t, l = x :: t := by
            match l, h1 with
            | x :: t, _ => exact ⟨x, t, rfl⟩
            | [], h1 => simp at h1
          obtain ⟨b, off, P, C, P2, C2, rfl, hb, h5, hV⟩ := val_at hL (j := 0) rfl
          rw [Nat.zero_mul, Nat.add_zero] at h5
          have hlen : (x :: t).length ≤ 8 := by omega
          have hms : ∀ r : List (VD n), (∀ y ∈ r, GoodD y) → sumBy (massV (n + 1)) r ≤ r.length * 1048576 := by
            intro r
            induction r with
            | nil => intro _; simp [sumBy]
            | cons y r ih =>
              intro h
              have h3 := ih (fun z hz => h z (by simp [hz]))
              have h4 := (h y (by simp)).1
              simp only [sumBy, List.length_cons, Nat.succ_mul]
              omega
          have hm := hms (x :: t) hg
          have hm9 : (x :: t).length * 1048576 ≤ 8 * 1048576 := Nat.mul_le_mul_right _ hlen
          refine (cCall_print x.k x.i ⟨x.s.toArray⟩ P x.l.length C P2 x.ks.length C2 b off c w hb h5 (x :: t).length (by simp) hlen ⟨(sepFrom [32] 0 ((x :: t).map (printV (n + 1)))).toArray⟩ (fun W hW => ?_)).mono ?_
          · have hLW : ValsAt anyB W (IsV anyB W (n + 1)) (some ⟨b, off, none⟩) (x :: t) := hL.on (U' := anyB) ⟨hW.size, fun x hx _ => ⟨hW.block x hx, trivial⟩⟩ (fun v x h => isV_any (isV_bel h hW))
            exact cPrints (n + 1) anyB (fun _ _ _ _ _ _ => trivial) (some ⟨b, off, none⟩) (x :: t) c [32] W hLW (Nat.le_trans hlen (by decide)) (prints_le (n := n + 1) (x :: t) [32] (Nat.le_trans hm (Nat.le_trans hm9 (by decide))) (by simp) (fun y hy => (hg y hy).2))
              (fun v y W' hy hv => cPrint_any (n + 1) anyB (fun _ _ _ _ _ _ => trivial) v y W' hv (hg y hy).1 (hg y hy).2)
          · intro e w' h
            have h2' : ¬ 8 < ((x :: t).length : Int) := h2
            rw [show callR [112, 114, 105, 110, 116] (x :: t) = madeD (sepFrom [32] 0 ((x :: t).map (printV (n + 1)))) by
              have hc : ¬ (((x :: t).length : Int) < 1 ∨ (8 : Int) < ((x :: t).length : Int)) := by rintro (h | h); exact h1 h; exact h2' h
              unfold callR
              simp only [hR, if_neg hc]
              simp]
            exact tells_made h
end Go.Proofs.YtnepogddjinpoaaGreatDoor
