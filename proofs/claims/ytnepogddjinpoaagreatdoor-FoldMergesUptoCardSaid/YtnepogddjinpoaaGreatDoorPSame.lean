/-
  The page's SamePipe, at two pipelines of the same content.
-/
import Derived.Test.YtnepogddjinpoaaGreatDoorOwnNode
import Derived.Test.YtnepogddjinpoaaGreatDoorQB
import Derived.Deep.RegionWith
import Derived.Deep.QuietTactic
import Derived.BigQuiet
import Derived.BigRegion
namespace Go.Proofs.YtnepogddjinpoaaGreatDoor
open Go.RowKit
set_option linter.unusedVariables false
set_option linter.unusedSimpArgs false

theorem name_codeS {P : Program} {c : Code} {Q : Exit → Act → World → Prop} {a : Act} {w : World} (h : ∀ W, w = W → c.wp P Q a W) : c.wp P Q a w := h w rfl
set_option maxHeartbeats 4000000 in
set_option maxRecDepth 100000 in
theorem samePipe_eq (U : World → Nat → Prop) (hU : Lasts U) (a1 a2 : Option Addr) (c1 c2 : Nat) (l : List CallD) (w : World) (h1 : AtR CallR 2 U w a1 l) (h2 : AtR CallR 2 U w a2 l) (hm : sumBy massC l ≤ 1048576) :
    Calls Tryz.prog 28 #[.slice a1 l.length c1, .slice a2 l.length c2] w fun e w' => e = .returned (.bool true) ∧ Below w.heap.size w w' := by
  have hlen : l.length ≤ 1048576 := Nat.le_trans (sumBy_len massC massC_pos l) hm
  have H1 := hide h1; have H2 := hide h2; have HM := hide hm
  clear h1 h2 hm
  go_enter Tryz.func28, Tryz.ntmps28
  go_wp2_with fail
  go_loopw [5] (fun iv wr => ∃ (i : Nat), iv = .int .i64 (i : Int) ∧ i ≤ l.length ∧ Hid (Below w.heap.size w wr)) (fun iv _ => l.length - (intOf iv).toNat)
  case atStart => exact ⟨0, rfl, Nat.zero_le _, Below.refl _ _⟩
  case round =>
    obtain ⟨i, rfl, hil, hJ⟩ := hrel
    by_cases hlt : i < l.length
    · obtain ⟨x, hx⟩ : ∃ x, l[i]? = some x := ⟨_, List.getElem?_eq_getElem hlt⟩
      obtain ⟨g1, o1, vs1, rfl, hg1, _, _, hcell1, hN1⟩ := H1.out i x hx
      obtain ⟨g2, o2, vs2, rfl, hg2, _, _, hcell2, hN2⟩ := H2.out i x hx
      obtain ⟨b1, d1, rfl, q1⟩ := hN1
      obtain ⟨b2, d2, rfl, q2⟩ := hN2
      have hxa : x.args.length ≤ 1048576 := by
        have e1 := sumBy_mem massC l x (List.mem_of_getElem? hx)
        have e2 := sumBy_len massA massA_pos x.args
        have e3 := HM.out
        have e4 : sumBy massA x.args ≤ massC x := by unfold massC; omega
        omega
      have HXM := hide (show massC x ≤ 1048576 from Nat.le_trans (sumBy_mem massC l x (List.mem_of_getElem? hx)) HM.out)
      have F := hide (fun (W : World) (hb : Below w.heap.size w W) => And.intro ((cellB (hb.block g1 hg1) _).trans (hcell1 0 _ rfl)) (And.intro ((cellB (hb.block g1 hg1) _).trans (hcell1 1 _ rfl)) (And.intro ((cellB (hb.block g2 hg2) _).trans (hcell2 0 _ rfl)) ((cellB (hb.block g2 hg2) _).trans (hcell2 1 _ rfl)))))
      have Q1 := hide q1; have Q2 := hide q2
      obtain ⟨f0, f1, f2, f3⟩ := F.out wr hJ.out
      simp only [Nat.add_zero] at f0 f2
      have hji : (i : Int) < (l.length : Int) := by omega
      have hi9 : i < 1048576 := by omega
      have HLT := hide hlt
      clear hcell1 hcell2 hx q1 q2 hlt hil hlen
      go_wp2_with fail
      go_quiet (fail)
      go_wp2_with fail
      have hJ2 := hide (below_drewN hJ.out nq)
      obtain ⟨wo, hwo⟩ : ∃ x, x = wr := ⟨_, rfl⟩
      subst hwo
      clear f0 f1 f2 f3
      go_loopw [6] (fun kv wr2 => ∃ (k : Nat), kv = .int .i64 (k : Int) ∧ k ≤ x.args.length ∧ Hid (Below w.heap.size w wr2)) (fun kv _ => x.args.length - (intOf kv).toNat)
      case atStart => exact ⟨0, rfl, Nat.zero_le _, hJ2⟩
      case round =>
        obtain ⟨k, rfl, hkl, hJ3⟩ := hrel
        obtain ⟨f0, f1, f2, f3⟩ := F.out wr hJ3.out
        simp only [Nat.add_zero] at f0 f2
        by_cases hlt2 : k < x.args.length
        · obtain ⟨y, hy⟩ : ∃ y, x.args[k]? = some y := ⟨_, List.getElem?_eq_getElem hlt2⟩
          obtain ⟨g3, o3, vs3, rfl, hg3, _, _, hcell3, hN3⟩ := Q1.out k y hy
          obtain ⟨g4, o4, vs4, rfl, hg4, _, _, hcell4, hN4⟩ := Q2.out k y hy
          obtain ⟨p1, e1, rfl, r1⟩ := hN3
          obtain ⟨p2, e2, rfl, r2⟩ := hN4
          have hB3 := hJ3.out.block g3 hg3
          have hB4 := hJ3.out.block g4 hg4
          have m0 := (cellB hB3 _).trans (hcell3 0 _ rfl); have m1 := (cellB hB3 _).trans (hcell3 1 _ rfl); have m2 := (cellB hB3 _).trans (hcell3 2 _ rfl); have m3 := (cellB hB3 _).trans (hcell3 3 _ rfl); have m4 := (cellB hB3 _).trans (hcell3 4 _ rfl)
          have n0 := (cellB hB4 _).trans (hcell4 0 _ rfl); have n1 := (cellB hB4 _).trans (hcell4 1 _ rfl); have n2 := (cellB hB4 _).trans (hcell4 2 _ rfl); have n3 := (cellB hB4 _).trans (hcell4 3 _ rfl); have n4 := (cellB hB4 _).trans (hcell4 4 _ rfl)
          simp only [Nat.add_zero] at m0 n0
          have hsz3 := hJ3.out.size
          have hg1m : g1 < wr.heap.size := by omega
          have hg2m : g2 < wr.heap.size := by omega
          have hg3m : g3 < wr.heap.size := by omega
          have hg4m : g4 < wr.heap.size := by omega
          have hki : (k : Int) < (x.args.length : Int) := by omega
          have hk9 : k < 1048576 := by omega
          have hyp : y.path.length ≤ 1048576 := by
            have e1 := sumBy_mem massA x.args y (List.mem_of_getElem? hy)
            have e2 := sumBy_len (fun p : List UInt8 => p.length + 1) (fun p => by omega) y.path
            have e3 := HXM.out
            have e4 : sumBy massA x.args ≤ massC x := by unfold massC; omega
            have e5 : sumBy (fun p : List UInt8 => p.length + 1) y.path ≤ massA y := by unfold massA; omega
            omega
          have R1 := hide r1; have R2 := hide r2
          have HLT2 := hide hlt2
          obtain ⟨wm, hwm⟩ : ∃ x, x = wr := ⟨_, rfl⟩
          subst hwm
          clear hcell3 hcell4 r1 r2 hy hlt2 hkl hB3 hB4
          go_wp2_with fail
          go_region
          all_goals
            go_wp2_with fail
            refine name_codeS fun W hW => ?_
            have C1 : Chg [] wm W := by subst hW; (repeat' (first | with_reducible exact Chg.refl _ _ | with_reducible refine Chg.alloc ?_ _ | with_reducible refine Chg.drew ?_ | with_reducible refine Chg.drewN ?_ _ | with_reducible refine Chg.set_ ?_ _ _ (by first | (simp; done) | (simp; omega) | omega)))
            first
              | (have K7 : Blk W wm.heap.size 35 #[.int .i64 y.k, .string ⟨y.nm.toArray⟩, .slice p1 y.path.length e1, .int .i64 y.i, .string ⟨y.s.toArray⟩] := by subst hW; (repeat' (first | with_reducible exact Blk.new_ (by first | rfl | (simp; done) | (simp; omega)) | with_reducible refine Blk.alloc_ ?_ | with_reducible refine Blk.drew ?_ | with_reducible refine Blk.drewN ?_ _ | with_reducible refine Blk.far_ ?_ (by first | (simp; done) | (simp; omega) | omega) | with_reducible apply Blk.set_eq | rfl))
                 have K8 : Blk W (wm.heap.size + 1) 35 #[.int .i64 y.k, .string ⟨y.nm.toArray⟩, .slice p2 y.path.length e2, .int .i64 y.i, .string ⟨y.s.toArray⟩] := by subst hW; (repeat' (first | with_reducible exact Blk.new_ (by first | rfl | (simp; done) | (simp; omega)) | with_reducible refine Blk.alloc_ ?_ | with_reducible refine Blk.drew ?_ | with_reducible refine Blk.drewN ?_ _ | with_reducible refine Blk.far_ ?_ (by first | (simp; done) | (simp; omega) | omega) | with_reducible apply Blk.set_eq | rfl))
                 have HK7 := hide K7; have HK8 := hide K8
                 clear K7 K8)
              | (have K7 : Blk W (wm.heap.size + 1) 35 #[.int .i64 y.k, .string ⟨y.nm.toArray⟩, .slice p1 y.path.length e1, .int .i64 y.i, .string ⟨y.s.toArray⟩] := by subst hW; (repeat' (first | with_reducible exact Blk.new_ (by first | rfl | (simp; done) | (simp; omega)) | with_reducible refine Blk.alloc_ ?_ | with_reducible refine Blk.drew ?_ | with_reducible refine Blk.drewN ?_ _ | with_reducible refine Blk.far_ ?_ (by first | (simp; done) | (simp; omega) | omega) | with_reducible apply Blk.set_eq | rfl))
                 have K8 : Blk W wm.heap.size 35 #[.int .i64 y.k, .string ⟨y.nm.toArray⟩, .slice p2 y.path.length e2, .int .i64 y.i, .string ⟨y.s.toArray⟩] := by subst hW; (repeat' (first | with_reducible exact Blk.new_ (by first | rfl | (simp; done) | (simp; omega)) | with_reducible refine Blk.alloc_ ?_ | with_reducible refine Blk.drew ?_ | with_reducible refine Blk.drewN ?_ _ | with_reducible refine Blk.far_ ?_ (by first | (simp; done) | (simp; omega) | omega) | with_reducible apply Blk.set_eq | rfl))
                 have HK7 := hide K7; have HK8 := hide K8
                 clear K7 K8)
            have HW := hide (hJ3.out.trans (C1.bel.mono hJ3.out.size))
            clear hW m0 m1 m2 m3 m4 n0 n1 n2 n3 n4 f0 f1 f2 f3 C1
            go_loopw [9] (fun mv wr => ∃ (m : Nat), mv = .int .i64 (m : Int) ∧ m ≤ y.path.length ∧ Hid (Below W.heap.size W wr)) (fun mv _ => y.path.length - (intOf mv).toNat)
            case atStart => exact ⟨0, rfl, Nat.zero_le _, Below.refl _ _⟩
            case round =>
              obtain ⟨m, rfl, hml, hJ4⟩ := hrel
              have KA := HK7.out.chg (Chg.of_below (S := []) hJ4.out) (by simp)
              have KB := HK8.out.chg (Chg.of_below (S := []) hJ4.out) (by simp)
              have k7 := KA.cell 2; have k8 := KB.cell 2
              simp at k7 k8
              clear KA KB
              by_cases hlt3 : m < y.path.length
              · obtain ⟨z, hz⟩ : ∃ z, y.path[m]? = some z := ⟨_, List.getElem?_eq_getElem hlt3⟩
                obtain ⟨g5, o5, vs5, rfl, hg5, _, _, hcell5, hN5⟩ := R1.out m z hz
                obtain ⟨g6, o6, vs6, rfl, hg6, _, _, hcell6, hN6⟩ := R2.out m z hz
                obtain rfl := (hN5 : vs5 = _)
                obtain rfl := (hN6 : vs6 = _)
                have hBw := HW.out.trans (hJ4.out.mono HW.out.size)
                have t5 := (cellB (hBw.block g5 hg5) _).trans (hcell5 0 _ rfl)
                have t6 := (cellB (hBw.block g6 hg6) _).trans (hcell6 0 _ rfl)
                simp only [Nat.add_zero, Nat.mul_one] at t5 t6
                have hmi : (m : Int) < (y.path.length : Int) := by omega
                have hm9 : m < 1048576 := by omega
                have HLT3 := hide hlt3
                clear hcell5 hcell6 hz hlt3 hml hBw
                go_wp2_with fail
                go_quiet (fail)
                go_wp2_with fail
                have hlt3 := HLT3.out
                go_roundw
                case rel => exact ⟨m + 1, by go_num, by omega, hide (below_drewN hJ4.out nq)⟩
                case measure => simp [intOf]; omega
              · obtain rfl : m = y.path.length := by omega
                have hif : decide ((y.path.length : Int) < (y.path.length : Int)) = false := by simp
                clear hml hlt3
                go_wp2_with fail
                have hlt2 := HLT2.out
                go_roundw
                case rel => exact ⟨k + 1, by go_num, by omega, hide (HW.out.trans (hJ4.out.mono HW.out.size))⟩
                case measure => simp [intOf]; omega
        · obtain rfl : k = x.args.length := by omega
          have hif : decide ((x.args.length : Int) < (x.args.length : Int)) = false := by simp
          clear hkl hlt2
          go_wp2_with fail
          have hlt := HLT.out
          go_roundw
          case rel => exact ⟨i + 1, by go_num, by omega, hJ3⟩
          case measure => simp [intOf]; omega
    · obtain rfl : i = l.length := by omega
      have hif : decide ((l.length : Int) < (l.length : Int)) = false := by simp
      clear hil hlt
      go_wp2_with fail
      go_ret
      exact ⟨rfl, hJ.out⟩
end Go.Proofs.YtnepogddjinpoaaGreatDoor
