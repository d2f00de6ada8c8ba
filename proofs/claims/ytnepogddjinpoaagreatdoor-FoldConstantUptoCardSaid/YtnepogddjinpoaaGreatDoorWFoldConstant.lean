/-
  FoldConstant: a constant pipeline has one value, whatever stands around it.
-/
import Derived.Test.YtnepogddjinpoaaGreatDoorM7
import Derived.Test.YtnepogddjinpoaaGreatDoorCPipe
import Derived.Test.YtnepogddjinpoaaGreatDoorLaidL
namespace Go.Proofs.YtnepogddjinpoaaGreatDoor
open Go.RowKit
set_option linter.unusedVariables false
set_option linter.unusedSimpArgs false

theorem tells_is {U : World → Nat → Prop} {w : World} {n : Nat} {r : Option (VD n)} {v : Value} (h : TellsV U w (n + 1) r v) : IsV U w (n + 1) v (r.getD nullD) := by
  cases r with
  | some x => exact h
  | none =>
    have h : v = zeroV := h
    subst h
    exact flat_is U w n 0 0 []
theorem constP_eq (l : List CallD) : constP l = !(l.any fun c => c.args.any asksA) := rfl
set_option maxHeartbeats 4000000 in
set_option maxRecDepth 100000 in
theorem foldConstant_any (n : Nat) (a : Option Addr) (c : Nat) (l : List CallD) (e1 e2 : EnvD n) (r1 d1 r2 d2 : VF) (a1 a2 : Option Addr) (c1 c2 : Nat) (w : World) (hL : AtR CallR 2 anyB w a l) (hm : sumBy massC l ≤ 1048576) (hn : ∀ x ∈ l, numC x)
    (hE1 : EnvP n anyB w r1 d1 a1 e1) (hE2 : EnvP n anyB w r2 d2 a2 e2) (g1 : GoodE e1) (g2 : GoodE e2) (m1 : e1.vars.length ≤ 1048576) (m2 : e2.vars.length ≤ 1048576) (hT : Lib.Utf8Tabs 1 2 w) :
    Calls Tryz.prog 3 #[.slice a l.length c, .agg (envCells r1 d1 a1 e1.vars.length c1), .agg (envCells r2 d2 a2 e2.vars.length c2)] w fun e w' => e = .returned (.bool true) ∧ Below w.heap.size w w' := by
  have low : ∀ W, Below w.heap.size w W → Stays anyB (lowN w.heap.size) w W := fun W h => ⟨h.size, fun b hb _ => ⟨h.block b hb, hb⟩⟩
  have cA := hide (fun W (h : Below w.heap.size w W) => alive41 W (Utf8Tabs_below hT h))
  have cC := hide (fun W (h : Below w.heap.size w W) => constant_any anyB lasts_any a c l W (hL.on CallR.steady (lasts_any.stays h)) hm)
  have cP1 := hide (fun W (h : Below w.heap.size w W) => cPipe_any n w.heap.size e1 r1 d1 a1 c1 a c l W h.size (hE1.on (low W h)) (hL.on CallR.steady (low W h)) g1 hm hn m1)
  have cP2 := hide (fun W (h : Below w.heap.size w W) => cPipe_any n w.heap.size e2 r2 d2 a2 c2 a c l W h.size (hE2.on (low W h)) (hL.on CallR.steady (low W h)) g2 hm hn m2)
  have HC := hide (pipe_const e1 e2 l)
  have hsm : SmallV (n + 1) ((pipeR e1 l).1.getD nullD) := by
    rcases pipe_fine g1 (goods hm hn) with ⟨d, e, g⟩ | ⟨f, e, _⟩
    · rw [e]; exact small_of_mass _ _ g.1
    · rw [e]; exact small_of_mass _ _ good_null.1
  have HL := hide hL
  have hlen : l.length ≤ 1048576 := Nat.le_trans (sumBy_len massC massC_pos l) hm
  have HM := hide hm
  clear hL hm hn hE1 hE2 g1 g2 hT low m1 m2
  obtain ⟨R1, hR1⟩ : ∃ R, pipeR e1 l = R := ⟨_, rfl⟩
  obtain ⟨R2, hR2⟩ : ∃ R, pipeR e2 l = R := ⟨_, rfl⟩
  simp only [hR1, hR2] at cP1 cP2 HC hsm
  have HSM := hide hsm
  clear hsm
  clear hR1 hR2
  obtain ⟨v1, hv1⟩ : ∃ v, e1.vars.length = v := ⟨_, rfl⟩
  obtain ⟨v2, hv2⟩ : ∃ v, e2.vars.length = v := ⟨_, rfl⟩
  simp only [hv1, hv2] at cP1 cP2 ⊢
  clear hv1 hv2 e1 e2
  go_enter Tryz.func3, Tryz.ntmps3
  go_wp2_with fail
  refine name_world fun W0 hW0 => ?_
  have C0 : Chg [] w W0 := by subst hW0; (repeat' (first | with_reducible exact Chg.refl _ _ | with_reducible refine Chg.alloc ?_ _ | with_reducible refine Chg.drew ?_ | with_reducible refine Chg.drewN ?_ _ | with_reducible refine Chg.set_ ?_ _ _ (by first | (simp; done) | (simp; omega) | omega)))
  have K1 : Blk W0 w.heap.size 29 (envCells r1 d1 a1 v1 c1) := by subst hW0; (repeat' (first | with_reducible exact Blk.new_ (by first | rfl | (simp; done) | (simp; omega)) | with_reducible refine Blk.alloc_ ?_ | with_reducible refine Blk.drew ?_ | with_reducible refine Blk.drewN ?_ _ | with_reducible refine Blk.far_ ?_ (by first | (simp; done) | (simp; omega) | omega) | with_reducible apply Blk.set_eq | rfl))
  have K2 : Blk W0 (w.heap.size + 1) 29 (envCells r2 d2 a2 v2 c2) := by subst hW0; (repeat' (first | with_reducible exact Blk.new_ (by first | rfl | (simp; done) | (simp; omega)) | with_reducible refine Blk.alloc_ ?_ | with_reducible refine Blk.drew ?_ | with_reducible refine Blk.drewN ?_ _ | with_reducible refine Blk.far_ ?_ (by first | (simp; done) | (simp; omega) | omega) | with_reducible apply Blk.set_eq | rfl))
  clear hW0
  refine (cA.out W0 C0.bel).mono ?_
  rintro e w1 ⟨rfl, hb1⟩
  have HK : Hid (Chg [] w w1 ∧ Blk w1 w.heap.size 29 (envCells r1 d1 a1 v1 c1) ∧ Blk w1 (w.heap.size + 1) 29 (envCells r2 d2 a2 v2 c2)) := hide ⟨C0.below hb1, K1.chg (Chg.of_below (S := []) hb1) (by simp), K2.chg (Chg.of_below (S := []) hb1) (by simp)⟩
  clear C0 K1 K2 hb1
  go_wp2_with fail
  go_loopw [7, 8] (fun qv iv wr => ∃ j : Nat, iv = .int .i64 (j : Int) ∧ qv = .bool (!((l.take j).any fun c => c.args.any asksA)) ∧ j ≤ l.length ∧ w1 = wr) (fun _ iv _ => l.length - (intOf iv).toNat)
  case atStart => exact ⟨0, rfl, rfl, Nat.zero_le _, rfl⟩
  case round =>
    obtain ⟨j, rfl, rfl, hjl, rfl⟩ := hrel
    by_cases hlt : j < l.length
    · obtain ⟨x, hx⟩ : ∃ x, l[j]? = some x := ⟨_, List.getElem?_eq_getElem hlt⟩
      obtain ⟨b, off, vs, rfl, hb, hu, _, hcell, hR⟩ := HL.out j x hx
      obtain ⟨ax, cx, rfl, hA⟩ := hR
      have f1 := (cellB (HK.out.1.block b hb (by simp)) _).trans (hcell 1 _ rfl)
      have hbr := Nat.lt_of_lt_of_le hb HK.out.1.size
      have htk : (l.take (j + 1)).any (fun c => c.args.any asksA) = ((l.take j).any (fun c => c.args.any asksA) || x.args.any asksA) := by
        rw [List.take_add_one, hx]; simp
      have HTK := hide htk
      have hal : x.args.length ≤ 1048576 := by
        have h1 := sumBy_mem massC l x (List.mem_of_getElem? hx)
        have h2 := sumBy_len massA massA_pos x.args
        have h3 := HM.out
        unfold massC at h1 h3
        omega
      obtain ⟨q, hq⟩ : ∃ q, (l.take j).any (fun c => c.args.any asksA) = q := ⟨_, rfl⟩
      rw [hq]
      rw [hq] at HTK
      have HA := hide hA
      have hji : (j : Int) < (l.length : Int) := by omega
      clear htk hcell hA hq hx hu
      go_wp2_with fail
      go_loopw [7, 9] (fun qv kv wr => ∃ k : Nat, kv = .int .i64 (k : Int) ∧ qv = .bool (!(q || (x.args.take k).any asksA)) ∧ k ≤ x.args.length ∧ w1 = wr) (fun _ kv _ => x.args.length - (intOf kv).toNat)
      case atStart => exact ⟨0, rfl, by simp, Nat.zero_le _, rfl⟩
      case round =>
        obtain ⟨k, rfl, rfl, hkl, rfl⟩ := hrel
        by_cases hlt2 : k < x.args.length
        · obtain ⟨y, hy⟩ : ∃ y, x.args[k]? = some y := ⟨_, List.getElem?_eq_getElem hlt2⟩
          obtain ⟨b2, off2, vs2, rfl, hb2, hu2, _, hcell2, hR2⟩ := HA.out k y hy
          obtain ⟨ay, cy, rfl, _⟩ := hR2
          have p0 := (cellB (HK.out.1.block b2 hb2 (by simp)) _).trans (hcell2 0 _ rfl)
          have hbr2 := Nat.lt_of_lt_of_le hb2 HK.out.1.size
          have htk2 : (x.args.take (k + 1)).any asksA = ((x.args.take k).any asksA || asksA y) := by
            rw [List.take_add_one, hy]; simp
          obtain ⟨z, hz⟩ : ∃ z, (q || (x.args.take k).any asksA) = z := ⟨_, rfl⟩
          have hz2 : (q || (x.args.take (k + 1)).any asksA) = (z || asksA y) := by rw [htk2, ← hz, Bool.or_assoc]
          have HZ := hide hz2
          rw [hz]
          have hki : (k : Int) < (x.args.length : Int) := by omega
          simp only [Nat.add_zero] at p0
          clear hcell2 hy hz hz2 htk2 hu2
          have ha : asksA y = (y.k == 1 || y.k == 2) := rfl
          have HAY := hide ha
          clear ha
          cases z with
          | true =>
            go_wp2_with fail
            go_roundw
            case rel => exact ⟨k + 1, by go_num, by rw [HZ.out]; rfl, by omega, trivial⟩
            case measure => simp [intOf]; omega
          | false =>
            by_cases h1 : y.k = 1
            · rw [h1] at p0
              go_wp2_with fail
              go_roundw
              case rel => exact ⟨k + 1, by go_num, by rw [HZ.out, HAY.out, h1]; rfl, by omega, trivial⟩
              case measure => simp [intOf]; omega
            · have e1 : (y.k == 1) = false := by simpa using h1
              by_cases h2 : y.k = 2
              · rw [h2] at p0
                go_wp2_with fail
                go_roundw
                case rel => exact ⟨k + 1, by go_num, by rw [HZ.out, HAY.out, h2]; rfl, by omega, trivial⟩
                case measure => simp [intOf]; omega
              · have e2 : (y.k == 2) = false := by simpa using h2
                go_wp2_with fail
                go_roundw
                case rel => exact ⟨k + 1, by go_num, by rw [HZ.out, HAY.out]; simp [bne, e1, e2], by omega, trivial⟩
                case measure => simp [intOf]; omega
        · obtain rfl : k = x.args.length := by omega
          have hte : (x.args.take x.args.length) = x.args := List.take_of_length_le (Nat.le_refl _)
          rw [hte]
          go_wp2_with fail
          go_roundw
          case rel => exact ⟨j + 1, by go_num, by rw [HTK.out], by omega, trivial⟩
          case measure => simp [intOf]; omega
    · obtain rfl : j = l.length := by omega
      have hte : (l.take l.length) = l := List.take_of_length_le (Nat.le_refl _)
      rw [hte, ← constP_eq]
      clear hte
      obtain ⟨q, hq⟩ : ∃ q, constP l = q := ⟨_, rfl⟩
      simp only [hq] at cC HC
      rw [hq]
      clear hq HL hlt hjl
      go_wp2_with fail
      refine (cC.out _ HK.out.1.bel).mono ?_
      rintro e w2 ⟨rfl, hb2⟩
      have HK2 := hide (show Chg [] w w2 ∧ Blk w2 w.heap.size 29 (envCells r1 d1 a1 v1 c1) ∧ Blk w2 (w.heap.size + 1) 29 (envCells r2 d2 a2 v2 c2) from ⟨HK.out.1.below hb2, HK.out.2.1.chg (Chg.of_below (S := []) hb2) (by simp), HK.out.2.2.chg (Chg.of_below (S := []) hb2) (by simp)⟩)
      clear HK hb2
      have eq0 : (q != q) = false := by simp
      have K1 := HK2.out.2.1
      have k0 := K1.cell 0; have k1 := K1.cell 1; have k2 := K1.cell 2; have k3 := K1.cell 3; have k4 := K1.cell 4; have k5 := K1.cell 5; have k6 := K1.cell 6; have k7 := K1.cell 7; have k8 := K1.cell 8; have k9 := K1.cell 9; have k10 := K1.cell 10; simp at k0 k1 k2 k3 k4 k5 k6 k7 k8 k9 k10
      have l1 := K1.lt
      clear K1
      go_wp2_with fail
      refine (cP1.out _ HK2.out.1.bel).mono ?_
      rintro e w3 ⟨x1, rfl, ht1, hb3⟩
      obtain ⟨kx, ix, sx, ax, nx, cx, bx, mx, ex, rfl⟩ := tells_shape ht1
      have C3 := HK2.out.1.below hb3
      have K2 := HK2.out.2.2.chg (Chg.of_below (S := []) hb3) (by simp)
      have HT1 := hide (tells_is ht1)
      clear ht1 hb3 HK2 k0 k1 k2 k3 k4 k5 k6 k7 k8 k9 k10 l1
      have hl3 := K2.lt
      have HC3 := hide C3
      have HK2 := hide K2
      clear C3
      have k0 := K2.cell 0; have k1 := K2.cell 1; have k2 := K2.cell 2; have k3 := K2.cell 3; have k4 := K2.cell 4; have k5 := K2.cell 5; have k6 := K2.cell 6; have k7 := K2.cell 7; have k8 := K2.cell 8; have k9 := K2.cell 9; have k10 := K2.cell 10; simp at k0 k1 k2 k3 k4 k5 k6 k7 k8 k9 k10
      clear K2
      go_wp2_with fail
      refine name_world fun W4 hW4 => ?_
      have C34 : Chg [] w3 W4 := by subst hW4; (repeat' (first | with_reducible exact Chg.refl _ _ | with_reducible refine Chg.alloc ?_ _ | with_reducible refine Chg.drew ?_ | with_reducible refine Chg.drewN ?_ _ | with_reducible refine Chg.set_ ?_ _ _ (by first | (simp; done) | (simp; omega) | omega)))
      have KX : Blk W4 w3.heap.size 26 (vCells kx ix sx ax nx cx bx mx ex) := by subst hW4; (repeat' (first | with_reducible exact Blk.new_ (by first | rfl | (simp; done) | (simp; omega)) | with_reducible refine Blk.alloc_ ?_ | with_reducible refine Blk.drew ?_ | with_reducible refine Blk.drewN ?_ _ | with_reducible refine Blk.far_ ?_ (by first | (simp; done) | (simp; omega) | omega) | with_reducible apply Blk.set_eq | rfl))
      clear hW4 k0 k1 k2 k3 k4 k5 k6 k7 k8 k9 k10
      have C4 := HC3.out.trans C34 (by simp)
      have T4 := isV_bel HT1.out C34.bel
      refine (cP2.out _ C4.bel).mono ?_
      rintro e w5 ⟨x2, rfl, ht2, hb5⟩
      obtain ⟨ky, iy, sy, ay, ny, cy, by_, my, ey, rfl⟩ := tells_shape ht2
      have C5 := C4.below hb5
      have KX := KX.chg (Chg.of_below (S := []) hb5) (by simp)
      have T5 := isV_bel T4 hb5
      have U5 := tells_is ht2
      have HC5 := hide C5
      have HX := hide KX
      have k0 := KX.cell 0; have k1 := KX.cell 1; have k2 := KX.cell 2; have k3 := KX.cell 3; have k4 := KX.cell 4; simp at k0 k1 k2 k3 k4
      have lX := KX.lt
      clear KX C5 C4 C34 T4 ht2 hb5 HT1 HC3 HK2
      cases q with
      | false =>
        go_wp2_with fail
        refine name_postO fun W hW => ?_
        have C6 : Chg [] w5 W := by subst hW; (repeat' (first | with_reducible exact Chg.refl _ _ | with_reducible refine Chg.alloc ?_ _ | with_reducible refine Chg.drew ?_ | with_reducible refine Chg.drewN ?_ _ | with_reducible refine Chg.set_ ?_ _ _ (by first | (simp; done) | (simp; omega) | omega)))
        clear hW
        simp [bodyPost, results, Tryz.results3, go_sem]
        exact (HC5.out.trans C6 (by simp)).bel
      | true =>
        have hRR := HC.out rfl
        subst hRR
        have eR : (R1.2 == R1.2) = true := by simp
        have HS := hide (And.intro T5 U5)
        clear T5 U5
        go_wp2_with fail
        refine name_world fun W6 hW6 => ?_
        have C6 : Chg [] w5 W6 := by subst hW6; (repeat' (first | with_reducible exact Chg.refl _ _ | with_reducible refine Chg.alloc ?_ _ | with_reducible refine Chg.drew ?_ | with_reducible refine Chg.drewN ?_ _ | with_reducible refine Chg.set_ ?_ _ _ (by first | (simp; done) | (simp; omega) | omega)))
        clear hW6
        refine (same_any (n + 1) anyB anyB (fun _ _ _ _ _ _ => trivial) (fun _ _ _ _ _ _ => trivial) _ _ (R1.1.getD nullD) (R1.1.getD nullD) W6 (isV_any (isV_bel HS.out.1 C6.bel)) (isV_any (isV_bel HS.out.2 C6.bel)) ?_).mono ?_
        · exact HSM.out
        · rintro e w7 ⟨rfl, hb7⟩
          have hE : eqV (n + 1) (R1.1.getD nullD) (R1.1.getD nullD) = true := eqV_refl _ _
          rw [hE]
          go_wp2_with fail
          go_ret
          exact ⟨rfl, ((HC5.out.trans C6 (by simp)).below hb7).bel⟩
theorem vars_le {n : Nat} {e : EnvD n} (hm : massE e ≤ 1048576) : e.vars.length ≤ 1048576 := by
  have hm3 : sumBy (fun y : List UInt8 × VT (n + 1) => y.1.length + massV (n + 1) y.2 + 1) e.vars ≤ 1048576 := Nat.le_trans (Nat.le_add_left _ _) hm
  exact Nat.le_trans (sumBy_len (fun y : List UInt8 × VT (n + 1) => y.1.length + massV (n + 1) y.2 + 1) (fun _ => by omega) e.vars) hm3
theorem foldConstant_walk (v0 v1 v2 : Value) (w : World) (g0 : ∃ (a : Option Addr) (c : Nat) (l : List CallD), v0 = .slice a l.length c ∧ AtR CallR 2 anyB w a l ∧ sumBy massC l ≤ 1048576 ∧ ∀ x ∈ l, numC x)
    (n1 : Nat) (g1 : ∀ m, n1 ≤ m → ∃ e : EnvD m, EnvAt m anyB w v1 e ∧ massE e ≤ 1048576 ∧ NumE e) (n2 : Nat) (g2 : ∀ m, n2 ≤ m → ∃ e : EnvD m, EnvAt m anyB w v2 e ∧ massE e ≤ 1048576 ∧ NumE e)
    (hT : Lib.Utf8Tabs 1 2 w) :
    Calls Tryz.prog 3 #[v0, v1, v2] w fun e w' => e = .returned (.bool true) ∧ Below w.heap.size w w' := by
  obtain ⟨a, c, l, rfl, hL, hm, hn⟩ := g0
  obtain ⟨e1, ⟨r1, d1, a1, c1, rfl, hE1⟩, hm1, hn1⟩ := g1 (max n1 n2) (Nat.le_max_left _ _)
  obtain ⟨e2, ⟨r2, d2, a2, c2, rfl, hE2⟩, hm2, hn2⟩ := g2 (max n1 n2) (Nat.le_max_right _ _)
  exact foldConstant_any (max n1 n2) a c l e1 e2 r1 d1 r2 d2 a1 a2 c1 c2 w hL hm hn hE1 hE2 (good_env hm1 hn1) (good_env hm2 hn2) (vars_le hm1) (vars_le hm2) hT
end Go.Proofs.YtnepogddjinpoaaGreatDoor
