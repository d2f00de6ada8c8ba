/-
  The page's check of a value.
-/
import Derived.Test.YtdnmgpidfjkiaaaDoorVCheck
namespace Go.Proofs.YtdnmgpidfjkiaaaDoor
open Go.RowKit
set_option linter.unusedVariables false
set_option linter.unusedSimpArgs false


set_option maxHeartbeats 8000000 in
set_option maxRecDepth 100000 in
theorem check_k5 {n : Nat} (U : World → Nat → Prop) (hU : ∀ w w' b, Below w.heap.size w w' → b < w.heap.size → U w b → U w' b) (i : Int) (s : List UInt8) (l : List (VT n)) (ks : List (List UInt8)) (a b : Option Addr) (c e deep : Nat) (w : World) (hd : deep ≤ 16)
    (hS : StrsAt U w b ks) (hL : ValsAt U w (IsV U w n) a l) (hz2 : l.length * 80 ≤ 140737488351232) (hz3 : ks.length * 16 ≤ 140737488351232) (hk5 : ∀ k ∈ ks, k.length ≤ 140737488351232)
    (ih : ∀ (v : Value) (x : VT n) (w : World), x ∈ l → IsV U w n v x → deep + 1 ≤ 16 → Calls Tryd.prog 41 #[v, .int .i64 ((deep : Int) + 1)] w fun e w' => e = .returned (.int .i64 (checkV n (deep + 1) x)) ∧ Below w.heap.size w w') :
    Calls Tryd.prog 41 #[valV 5 i ⟨s.toArray⟩ a l.length c b ks.length e, .int .i64 (deep : Int)] w fun e w' => e = .returned (.int .i64 (checkV (n + 1) deep (⟨5, i, s, l, ks⟩ : VN (VT n)))) ∧ Below w.heap.size w w' := by
  have hB0 : ∀ o1, Below w.heap.size w (w.alloc o1) := fun o1 => (Below.refl _ _).alloc (Nat.le_refl _) _
  have HB0 := hide hB0
  clear hB0
  have hxs : ((⟨s.toArray⟩ : ByteArray).size : Int) = (s.length : Int) := by rw [mkSize]
  have hxe : (⟨s.toArray⟩ : ByteArray).toList.isEmpty = decide (s.length = 0) := by rw [ByteArray.toList_eq]; cases s <;> simp
  obtain ⟨X, hX⟩ : ∃ x : ByteArray, (⟨s.toArray⟩ : ByteArray) = x := ⟨_, rfl⟩
  rw [hX] at hxs hxe ⊢
  have HXS := hide hxs; have HXE := hide hxe
  clear hX hxs hxe
  by_cases g1 : deep = 16
  · subst g1
    rw [checkV_head (show headErr _ _ _ _ _ _ _ = 42 by unfold headErr; exact if_pos ⟨by simp, rfl⟩) (by decide)]
    clear hS hL hk5 ih
    go_enter Tryd.func41, Tryd.ntmps41
    go_wp2_with fail
    repeat (go_quiet (fail); go_wp2_with fail)
    go_ret
    exact ⟨rfl, (by first | exact HB0.out _ | exact below_drewN (HB0.out _) _)⟩
  have g1' : ((deep : Int) == 16) = false := by rw [beq_eq_false_iff_ne]; omega
  by_cases g2 : 4096 < s.length
  · have g2' : decide ((4096 : Int) < (X.size : Int)) = true := by rw [HXS.out]; exact decide_eq_true (by omega)
    rw [checkV_head (show headErr _ _ _ _ _ _ _ = 5 by unfold headErr; rw [if_neg (by omega), if_pos g2]) (by decide)]
    clear hS hL hk5 ih
    go_enter Tryd.func41, Tryd.ntmps41
    go_wp2_with fail
    repeat (go_quiet (fail); go_wp2_with fail)
    go_ret
    exact ⟨rfl, (by first | exact HB0.out _ | exact below_drewN (HB0.out _) _)⟩
  have g2' : decide ((4096 : Int) < (X.size : Int)) = false := by rw [HXS.out]; exact decide_eq_false (by omega)
  by_cases g3 : 1024 < l.length
  · have g3' : decide ((1024 : Int) < (l.length : Int)) = true := decide_eq_true (by omega)
    rw [checkV_head (show headErr _ _ _ _ _ _ _ = 3 by unfold headErr; rw [if_neg (by omega), if_neg (by omega), if_pos (.inl g3)]) (by decide)]
    clear hS hL hk5 ih
    go_enter Tryd.func41, Tryd.ntmps41
    go_wp2_with fail
    repeat (go_quiet (fail); go_wp2_with fail)
    go_ret
    exact ⟨rfl, (by first | exact HB0.out _ | exact below_drewN (HB0.out _) _)⟩
  have g3' : decide ((1024 : Int) < (l.length : Int)) = false := decide_eq_false (by omega)
  by_cases g4 : 1024 < ks.length
  · have g4' : decide ((1024 : Int) < (ks.length : Int)) = true := decide_eq_true (by omega)
    rw [checkV_head (show headErr _ _ _ _ _ _ _ = 3 by unfold headErr; rw [if_neg (by omega), if_neg (by omega), if_pos (.inr g4)]) (by decide)]
    clear hS hL hk5 ih
    go_enter Tryd.func41, Tryd.ntmps41
    go_wp2_with fail
    repeat (go_quiet (fail); go_wp2_with fail)
    go_ret
    exact ⟨rfl, (by first | exact HB0.out _ | exact below_drewN (HB0.out _) _)⟩
  have g4' : decide ((1024 : Int) < (ks.length : Int)) = false := decide_eq_false (by omega)
  by_cases g5 : i ≠ 0
  · have g5' : (i != 0) = true := by simpa using g5
    rw [checkV_head (show headErr _ _ _ _ _ _ _ = 9 by unfold headErr; rw [if_neg (by omega), if_neg (by omega), if_neg (by omega), if_pos (by omega)]) (by decide)]
    clear hS hL hk5 ih
    go_enter Tryd.func41, Tryd.ntmps41
    go_wp2_with fail
    repeat (go_quiet (fail); go_wp2_with fail)
    go_ret
    exact ⟨rfl, (by first | exact HB0.out _ | exact below_drewN (HB0.out _) _)⟩
  have g5' : (i != 0) = false := by simpa using g5
  by_cases g6 : s.length ≠ 0
  · have g6' : X.toList.isEmpty = false := by rw [HXE.out]; exact decide_eq_false g6
    rw [checkV_head (show headErr _ _ _ _ _ _ _ = 9 by unfold headErr; rw [if_neg (by omega), if_neg (by omega), if_neg (by omega), if_pos (by omega)]) (by decide)]
    clear hS hL hk5 ih
    go_enter Tryd.func41, Tryd.ntmps41
    go_wp2_with fail
    repeat (go_quiet (fail); go_wp2_with fail)
    go_ret
    exact ⟨rfl, (by first | exact HB0.out _ | exact below_drewN (HB0.out _) _)⟩
  have g6' : X.toList.isEmpty = true := by rw [HXE.out]; exact decide_eq_true (by omega)
  by_cases g8 : ks.length ≠ 0
  · have g8' : decide (0 < ks.length) = true := decide_eq_true (by omega)
    rw [checkV_head (show headErr _ _ _ _ _ _ _ = 9 by unfold headErr; rw [if_neg (by omega), if_neg (by omega), if_neg (by omega), if_pos (by omega)]) (by decide)]
    clear hS hL hk5 ih
    go_enter Tryd.func41, Tryd.ntmps41
    go_wp2_with fail
    repeat (go_quiet (fail); go_wp2_with fail)
    go_ret
    exact ⟨rfl, (by first | exact HB0.out _ | exact below_drewN (HB0.out _) _)⟩
  have g8' : decide (0 < ks.length) = false := decide_eq_false (by omega)
  have hE : headErr deep 5 i s.length l.length ks.length (risingK ks) = 0 := headErr_zero (by omega) (by omega) (by omega) (by omega) (fun h => by have := h.1; omega)
  rw [checkV_good hE]
  clear hE
  obtain ⟨m, hm⟩ : ∃ m, l.length = m := ⟨_, rfl⟩
  obtain ⟨R, hR⟩ : ∃ R, firstE (l.map (checkV n (deep + 1))) = R := ⟨_, rfl⟩
  have hd1 : deep + 1 ≤ 16 := by omega
  have K1 := Blk.new w 26 #[.int .i64 5, .int .i64 i, .string X, .slice a m c, .slice b ks.length e]
  have hBW := HB0.out (.cells #[.int .i64 5, .int .i64 i, .string X, .slice a m c, .slice b ks.length e] 26)
  rw [hm] at hz2 g3' ⊢
  rw [hR]
  have HM := hide hm; have HR := hide hR; have HL := hide hL; have HIH := hide ih
  clear hm hR hL ih hk5
  go_enter Tryd.func41, Tryd.ntmps41
  go_wp2_with fail

  repeat (go_quiet (fail); go_wp2_with fail)
  clear g1' g2' g3' g4' g5' g6' g8'
  generalize w.alloc (.cells #[.int .i64 5, .int .i64 i, .string X, .slice a m c, .slice b ks.length e] 26) = W at K1 hBW ⊢
  have HL := hide (HL.out.on (R' := IsV U W n) (Stays.of_below hBW fun b h => hU _ _ b hBW h) (IsV.on (Stays.of_below hBW fun b h => hU _ _ b hBW h) n))
  have HBW := hide hBW
  have p3 := K1.cell 3
  simp at p3
  have z1 := K1.lt
  clear hBW K1 hS
  go_loopw [7] (fun i wr => ∃ j : Nat, i = .int .i64 (j : Int) ∧ j ≤ m ∧ Below W.heap.size W wr ∧ Hid (∀ r, r < j → (l.map (checkV n (deep + 1)))[r]? = some 0)) (fun i _ => m - (intOf i).toNat)
  case atStart => exact ⟨0, rfl, Nat.zero_le _, (by first | exact Below.refl _ _ | exact below_drewN (Below.refl _ _) _), fun r h => absurd h (Nat.not_lt_zero _)⟩
  case round =>
    obtain ⟨j, rfl, hj, hb, hall⟩ := hrel
    have p3r := (hb.cell (p := ⟨w.heap.size, 3, none⟩) z1).trans p3
    have zr1 : w.heap.size < wr.heap.size := Nat.lt_of_lt_of_le z1 hb.size
    by_cases hil : j < m
    · obtain ⟨x, hx⟩ : ∃ x, l[j]? = some x := ⟨_, List.getElem?_eq_getElem (by have := HM.out; omega)⟩
      have hstay : Stays U U W wr := Stays.of_below hb fun b h => hU _ _ b hb h
      obtain ⟨g, o, rfl, hg, _, ka, ia, sa, aa, na, ca, ba, ma, da, hF, hV⟩ := (HL.out.on hstay (IsV.on hstay n)) j x hx
      obtain ⟨f0, f1, f2, f3, f4⟩ := hF
      have hgr : g < wr.heap.size := hg
      have hji : (j : Int) < (m : Int) := by omega
      have cS := hide (HIH.out _ x wr (List.mem_of_getElem? hx) hV hd1)
      have hmp : (l.map (checkV n (deep + 1)))[j]? = some (checkV n (deep + 1) x) := by rw [List.getElem?_map, hx]; rfl
      obtain ⟨q, hq⟩ : ∃ q, checkV n (deep + 1) x = q := ⟨_, rfl⟩
      rw [hq] at cS hmp
      have HMP := hide hmp
      clear hV hx hstay hmp hq
      by_cases hq0 : q = 0
      · subst hq0
        have hnx : Hid (∀ r, r < j + 1 → (l.map (checkV n (deep + 1)))[r]? = some 0) := by
          intro r hr
          rcases Nat.lt_or_ge r j with h | h
          · exact hall.out r h
          · obtain rfl : r = j := by omega
            exact HMP.out
        clear hall
        go_wp2_with fail
        refine (cS.out).mono ?_
        rintro e w1 ⟨rfl, hb1⟩
        go_wp2_with fail
        go_roundw
        case rel => exact ⟨j + 1, by go_num, by omega, hb.trans (hb1.mono hb.size), hnx⟩
        case measure => simp [intOf]; omega
      · have hqt : (q != 0) = true := by simpa using hq0
        have hF := hide (show q = R by rw [← HR.out]; exact (firstE_bad HMP.out hq0 hall.out).symm)
        clear hall
        go_wp2_with fail
        refine (cS.out).mono ?_
        rintro e w1 ⟨rfl, hb1⟩
        go_wp2_with fail
        go_ret
        obtain rfl : q = R := hF.out
        exact ⟨rfl, HBW.out.trans ((hb.trans (hb1.mono hb.size)).mono HBW.out.size)⟩
    · obtain rfl : j = m := by omega
      have hF := hide (show (0 : Int) = R by rw [← HR.out]; exact (firstE_good (fun r hr => hall.out r (by have := HM.out; rw [List.length_map] at hr; omega))).symm)
      have hif : decide ((j : Int) < (j : Int)) = false := by simp
      clear hall
      go_wp2_with fail
      go_ret
      obtain rfl : R = 0 := hF.out.symm
      exact ⟨rfl, HBW.out.trans (hb.mono HBW.out.size)⟩

set_option maxHeartbeats 8000000 in
set_option maxRecDepth 100000 in
theorem check_k6 {n : Nat} (U : World → Nat → Prop) (hU : ∀ w w' b, Below w.heap.size w w' → b < w.heap.size → U w b → U w' b) (i : Int) (s : List UInt8) (l : List (VT n)) (ks : List (List UInt8)) (a b : Option Addr) (c e deep : Nat) (w : World) (hd : deep ≤ 16)
    (hS : StrsAt U w b ks) (hL : ValsAt U w (IsV U w n) a l) (hz2 : l.length * 80 ≤ 140737488351232) (hz3 : ks.length * 16 ≤ 140737488351232) (hk5 : ∀ k ∈ ks, k.length ≤ 140737488351232)
    (ih : ∀ (v : Value) (x : VT n) (w : World), x ∈ l → IsV U w n v x → deep + 1 ≤ 16 → Calls Tryd.prog 41 #[v, .int .i64 ((deep : Int) + 1)] w fun e w' => e = .returned (.int .i64 (checkV n (deep + 1) x)) ∧ Below w.heap.size w w') :
    Calls Tryd.prog 41 #[valV 6 i ⟨s.toArray⟩ a l.length c b ks.length e, .int .i64 (deep : Int)] w fun e w' => e = .returned (.int .i64 (checkV (n + 1) deep (⟨6, i, s, l, ks⟩ : VN (VT n)))) ∧ Below w.heap.size w w' := by
  have hB0 : ∀ o1, Below w.heap.size w (w.alloc o1) := fun o1 => (Below.refl _ _).alloc (Nat.le_refl _) _
  have HB0 := hide hB0
  clear hB0
  have hxs : ((⟨s.toArray⟩ : ByteArray).size : Int) = (s.length : Int) := by rw [mkSize]
  have hxe : (⟨s.toArray⟩ : ByteArray).toList.isEmpty = decide (s.length = 0) := by rw [ByteArray.toList_eq]; cases s <;> simp
  obtain ⟨X, hX⟩ : ∃ x : ByteArray, (⟨s.toArray⟩ : ByteArray) = x := ⟨_, rfl⟩
  rw [hX] at hxs hxe ⊢
  have HXS := hide hxs; have HXE := hide hxe
  clear hX hxs hxe
  by_cases g1 : deep = 16
  · subst g1
    rw [checkV_head (show headErr _ _ _ _ _ _ _ = 42 by unfold headErr; exact if_pos ⟨by simp, rfl⟩) (by decide)]
    clear hS hL hk5 ih
    go_enter Tryd.func41, Tryd.ntmps41
    go_wp2_with fail
    repeat (go_quiet (fail); go_wp2_with fail)
    go_ret
    exact ⟨rfl, (by first | exact HB0.out _ | exact below_drewN (HB0.out _) _)⟩
  have g1' : ((deep : Int) == 16) = false := by rw [beq_eq_false_iff_ne]; omega
  by_cases g2 : 4096 < s.length
  · have g2' : decide ((4096 : Int) < (X.size : Int)) = true := by rw [HXS.out]; exact decide_eq_true (by omega)
    rw [checkV_head (show headErr _ _ _ _ _ _ _ = 5 by unfold headErr; rw [if_neg (by omega), if_pos g2]) (by decide)]
    clear hS hL hk5 ih
    go_enter Tryd.func41, Tryd.ntmps41
    go_wp2_with fail
    repeat (go_quiet (fail); go_wp2_with fail)
    go_ret
    exact ⟨rfl, (by first | exact HB0.out _ | exact below_drewN (HB0.out _) _)⟩
  have g2' : decide ((4096 : Int) < (X.size : Int)) = false := by rw [HXS.out]; exact decide_eq_false (by omega)
  by_cases g3 : 1024 < l.length
  · have g3' : decide ((1024 : Int) < (l.length : Int)) = true := decide_eq_true (by omega)
    rw [checkV_head (show headErr _ _ _ _ _ _ _ = 3 by unfold headErr; rw [if_neg (by omega), if_neg (by omega), if_pos (.inl g3)]) (by decide)]
    clear hS hL hk5 ih
    go_enter Tryd.func41, Tryd.ntmps41
    go_wp2_with fail
    repeat (go_quiet (fail); go_wp2_with fail)
    go_ret
    exact ⟨rfl, (by first | exact HB0.out _ | exact below_drewN (HB0.out _) _)⟩
  have g3' : decide ((1024 : Int) < (l.length : Int)) = false := decide_eq_false (by omega)
  by_cases g4 : 1024 < ks.length
  · have g4' : decide ((1024 : Int) < (ks.length : Int)) = true := decide_eq_true (by omega)
    rw [checkV_head (show headErr _ _ _ _ _ _ _ = 3 by unfold headErr; rw [if_neg (by omega), if_neg (by omega), if_pos (.inr g4)]) (by decide)]
    clear hS hL hk5 ih
    go_enter Tryd.func41, Tryd.ntmps41
    go_wp2_with fail
    repeat (go_quiet (fail); go_wp2_with fail)
    go_ret
    exact ⟨rfl, (by first | exact HB0.out _ | exact below_drewN (HB0.out _) _)⟩
  have g4' : decide ((1024 : Int) < (ks.length : Int)) = false := decide_eq_false (by omega)
  by_cases g5 : i ≠ 0
  · have g5' : (i != 0) = true := by simpa using g5
    rw [checkV_head (show headErr _ _ _ _ _ _ _ = 9 by unfold headErr; rw [if_neg (by omega), if_neg (by omega), if_neg (by omega), if_pos (by omega)]) (by decide)]
    clear hS hL hk5 ih
    go_enter Tryd.func41, Tryd.ntmps41
    go_wp2_with fail
    repeat (go_quiet (fail); go_wp2_with fail)
    go_ret
    exact ⟨rfl, (by first | exact HB0.out _ | exact below_drewN (HB0.out _) _)⟩
  have g5' : (i != 0) = false := by simpa using g5
  by_cases g6 : s.length ≠ 0
  · have g6' : X.toList.isEmpty = false := by rw [HXE.out]; exact decide_eq_false g6
    rw [checkV_head (show headErr _ _ _ _ _ _ _ = 9 by unfold headErr; rw [if_neg (by omega), if_neg (by omega), if_neg (by omega), if_pos (by omega)]) (by decide)]
    clear hS hL hk5 ih
    go_enter Tryd.func41, Tryd.ntmps41
    go_wp2_with fail
    repeat (go_quiet (fail); go_wp2_with fail)
    go_ret
    exact ⟨rfl, (by first | exact HB0.out _ | exact below_drewN (HB0.out _) _)⟩
  have g6' : X.toList.isEmpty = true := by rw [HXE.out]; exact decide_eq_true (by omega)
  have cR := hide (fun w' (h : Below w.heap.size w w') => rising_any U b e ks w' (hS.on (Stays.of_below h fun b hb => hU _ _ b h hb)) hz3 hk5)
  by_cases g9 : ks.length ≠ l.length
  · have g9' : ((ks.length : Int) != (l.length : Int)) = true := by simp; omega
    rw [checkV_head (show headErr _ _ _ _ _ _ _ = 9 by unfold headErr; rw [if_neg (by omega), if_neg (by omega), if_neg (by omega), if_neg (by omega), if_pos ⟨rfl, .inl g9⟩]) (by decide)]
    clear hS hL hk5 ih
    go_enter Tryd.func41, Tryd.ntmps41
    go_wp2_with fail
    repeat (go_quiet (fail); go_wp2_with fail)
    go_ret
    exact ⟨rfl, (by first | exact HB0.out _ | exact below_drewN (HB0.out _) _)⟩
  have g9' : ((ks.length : Int) != (l.length : Int)) = false := by simp; omega
  obtain ⟨up, hup⟩ : ∃ up, risingK ks = up := ⟨_, rfl⟩
  rw [hup] at cR
  cases up
  · rw [checkV_head (show headErr _ _ _ _ _ _ _ = 9 by unfold headErr; rw [if_neg (by omega), if_neg (by omega), if_neg (by omega), if_neg (by omega), if_pos ⟨rfl, .inr hup⟩]) (by decide)]
    clear hS hL hk5 ih hup
    go_enter Tryd.func41, Tryd.ntmps41
    go_wp2_with fail
    repeat (go_quiet (fail); go_wp2_with fail)
    refine (cR.out _ (HB0.out _)).mono ?_
    rintro e w1 ⟨rfl, hb1⟩
    go_wp2_with fail
    go_ret
    exact ⟨rfl, (HB0.out _).trans (hb1.mono (HB0.out _).size)⟩
  have hE : headErr deep 6 i s.length l.length ks.length (risingK ks) = 0 := headErr_zero (by omega) (by omega) (by omega) (by omega) (fun h => by rcases h.2 with h | h; exact absurd h (by omega); rw [hup] at h; cases h)
  rw [checkV_good hE]
  clear hE
  obtain ⟨m, hm⟩ : ∃ m, l.length = m := ⟨_, rfl⟩
  obtain ⟨R, hR⟩ : ∃ R, firstE (l.map (checkV n (deep + 1))) = R := ⟨_, rfl⟩
  have hd1 : deep + 1 ≤ 16 := by omega
  have K1 := Blk.new w 26 #[.int .i64 6, .int .i64 i, .string X, .slice a m c, .slice b ks.length e]
  have hBW := HB0.out (.cells #[.int .i64 6, .int .i64 i, .string X, .slice a m c, .slice b ks.length e] 26)
  rw [hm] at hz2 g3' g9' ⊢
  rw [hR]
  have HM := hide hm; have HR := hide hR; have HL := hide hL; have HIH := hide ih
  clear hm hR hL ih hup hk5
  go_enter Tryd.func41, Tryd.ntmps41
  go_wp2_with fail

  repeat (go_quiet (fail); go_wp2_with fail)
  clear g1' g2' g3' g4' g5' g6' g9'
  refine (cR.out _ hBW).mono ?_
  rintro e W ⟨rfl, hb1⟩
  have K1 := K1.below hb1 K1.lt
  have hBW := hBW.trans (hb1.mono hBW.size)
  have p3 := K1.cell 3
  simp at p3
  have z1 := K1.lt
  go_wp2_with fail
  have HL := hide (HL.out.on (R' := IsV U W n) (Stays.of_below hBW fun b h => hU _ _ b hBW h) (IsV.on (Stays.of_below hBW fun b h => hU _ _ b hBW h) n))
  have HBW := hide hBW
  have p3 := K1.cell 3
  simp at p3
  have z1 := K1.lt
  clear hBW K1 hS
  go_loopw [7] (fun i wr => ∃ j : Nat, i = .int .i64 (j : Int) ∧ j ≤ m ∧ Below W.heap.size W wr ∧ Hid (∀ r, r < j → (l.map (checkV n (deep + 1)))[r]? = some 0)) (fun i _ => m - (intOf i).toNat)
  case atStart => exact ⟨0, rfl, Nat.zero_le _, (by first | exact Below.refl _ _ | exact below_drewN (Below.refl _ _) _), fun r h => absurd h (Nat.not_lt_zero _)⟩
  case round =>
    obtain ⟨j, rfl, hj, hb, hall⟩ := hrel
    have p3r := (hb.cell (p := ⟨w.heap.size, 3, none⟩) z1).trans p3
    have zr1 : w.heap.size < wr.heap.size := Nat.lt_of_lt_of_le z1 hb.size
    by_cases hil : j < m
    · obtain ⟨x, hx⟩ : ∃ x, l[j]? = some x := ⟨_, List.getElem?_eq_getElem (by have := HM.out; omega)⟩
      have hstay : Stays U U W wr := Stays.of_below hb fun b h => hU _ _ b hb h
      obtain ⟨g, o, rfl, hg, _, ka, ia, sa, aa, na, ca, ba, ma, da, hF, hV⟩ := (HL.out.on hstay (IsV.on hstay n)) j x hx
      obtain ⟨f0, f1, f2, f3, f4⟩ := hF
      have hgr : g < wr.heap.size := hg
      have hji : (j : Int) < (m : Int) := by omega
      have cS := hide (HIH.out _ x wr (List.mem_of_getElem? hx) hV hd1)
      have hmp : (l.map (checkV n (deep + 1)))[j]? = some (checkV n (deep + 1) x) := by rw [List.getElem?_map, hx]; rfl
      obtain ⟨q, hq⟩ : ∃ q, checkV n (deep + 1) x = q := ⟨_, rfl⟩
      rw [hq] at cS hmp
      have HMP := hide hmp
      clear hV hx hstay hmp hq
      by_cases hq0 : q = 0
      · subst hq0
        have hnx : Hid (∀ r, r < j + 1 → (l.map (checkV n (deep + 1)))[r]? = some 0) := by
          intro r hr
          rcases Nat.lt_or_ge r j with h | h
          · exact hall.out r h
          · obtain rfl : r = j := by omega
            exact HMP.out
        clear hall
        go_wp2_with fail
        refine (cS.out).mono ?_
        rintro e w1 ⟨rfl, hb1⟩
        go_wp2_with fail
        go_roundw
        case rel => exact ⟨j + 1, by go_num, by omega, hb.trans (hb1.mono hb.size), hnx⟩
        case measure => simp [intOf]; omega
      · have hqt : (q != 0) = true := by simpa using hq0
        have hF := hide (show q = R by rw [← HR.out]; exact (firstE_bad HMP.out hq0 hall.out).symm)
        clear hall
        go_wp2_with fail
        refine (cS.out).mono ?_
        rintro e w1 ⟨rfl, hb1⟩
        go_wp2_with fail
        go_ret
        obtain rfl : q = R := hF.out
        exact ⟨rfl, HBW.out.trans ((hb.trans (hb1.mono hb.size)).mono HBW.out.size)⟩
    · obtain rfl : j = m := by omega
      have hF := hide (show (0 : Int) = R by rw [← HR.out]; exact (firstE_good (fun r hr => hall.out r (by have := HM.out; rw [List.length_map] at hr; omega))).symm)
      have hif : decide ((j : Int) < (j : Int)) = false := by simp
      clear hall
      go_wp2_with fail
      go_ret
      obtain rfl : R = 0 := hF.out.symm
      exact ⟨rfl, HBW.out.trans (hb.mono HBW.out.size)⟩

end Go.Proofs.YtdnmgpidfjkiaaaDoor
