/-
  JslexSpec: THE WALK.
-/
import Derived.Test.YtdnmgpidfjkiaaaDoorSays
import Derived.Test.YtdnmgpidfjkiaaaDoorVMass
import Derived.Test.YtdnmgpidfjkiaaaDoorVLit
import Derived.Test.YtdnmgpidfjkiaaaDoorVCheck4
import Derived.Test.YtdnmgpidfjkiaaaDoorLexH
import Derived.Test.YtdnmgpidfjkiaaaDoorLexW
namespace Go.Proofs.YtdnmgpidfjkiaaaDoor
open Go.RowKit
set_option linter.unusedVariables false
set_option linter.unusedSimpArgs false

theorem any_okL : ∀ (w w' : World) (b : Nat), Below w.heap.size w w' → b < w.heap.size → anyB w b → anyB w' b := fun _ _ _ _ _ _ => trivial
set_option maxHeartbeats 4000000 in
set_option maxRecDepth 100000 in
theorem jslexSpec_walk (v : Value) (w : World) (n : Nat) (d : VT n) (hV : IsV anyB w n v d) (hM : massV n d ≤ 1048576) (hN : NumV n d) (hS : Lib.TabIs Tryd.prog w "strings.asciiSpace" .u8 Lib.asciiSpaceTab) (hLn : LenW w) :
    Calls Tryd.prog 9 #[v] w fun e w' => e = .returned (.bool true) ∧ Below w.heap.size w w' := by
  cases n with
  | zero => exact hV.elim
  | succ m =>
  have hL : LexW w := ⟨hS, hLn.len, hLn.lt⟩
  have hsm := small_of_mass (m + 1) d hM
  have cA := hide (fun W (h : Below w.heap.size w W) => alive38 W (hL.below h))
  have cC := hide (fun W (h : Below w.heap.size w W) => refCheck_any (m + 1) anyB any_okL _ _ W (IsV.on (stays_any h) (m + 1) _ _ hV) hsm)
  have cP := hide (fun W (h : Below w.heap.size w W) => refPlain_any (m + 1) anyB any_okL _ _ W (IsV.on (stays_any h) (m + 1) _ _ hV) hsm)
  have cL := hide (fun W (h : Below w.heap.size w W) => refLit_any (m + 1) _ _ W (IsV.on (stays_any h) (m + 1) _ _ hV) hsm hN (by omega))
  have cS := hide (fun W (h : Below w.heap.size w W) (x : List UInt8) (hx : saysV (m + 1) d (repairR x) = true) => by have := says_any (m + 1) _ d (repairR x) W (IsV.on (stays_any h) (m + 1) _ _ hV) hsm (by omega); rw [hx] at this; exact this)
  have hlen := litR_len (m + 1) d hN
  have hspec := spec_lex d
  obtain ⟨C, hC⟩ : ∃ C, checkV (m + 1) 0 d = C := ⟨_, rfl⟩
  obtain ⟨B, hB⟩ : ∃ B, plainV (m + 1) d = B := ⟨_, rfl⟩
  obtain ⟨t, ht⟩ : ∃ t, litR (m + 1) d = t := ⟨_, rfl⟩
  rw [hC, hB, ht] at hspec
  rw [hC] at cC
  rw [hB] at cP
  rw [ht] at cL hlen
  have htl : t.length ≤ 31457280 := by omega
  have hcat : (⟨(32 :: (t ++ [32])).toArray⟩ : ByteArray) = (⟨#[32]⟩ : ByteArray) ++ ⟨t.toArray⟩ ++ (⟨#[32]⟩ : ByteArray) := by apply ByteArray.ext; simp
  have cX := fun W (h : Below w.heap.size w W) => pieces_any (32 :: (t ++ [32])) W (hL.below h)
  rw [hcat] at cX
  have hms : (⟨t.toArray⟩ : ByteArray).size = t.length := mk_size t
  have cX := hide cX
  have htold := hide (fun (h1 : C = 0) (h2 : B = true) P n e (ht : Told (32 :: (t ++ [32])) P n e) (hl : t.length + 2 ≤ 60000) => lex_told (hspec h1 h2) ht (by simp; omega))
  obtain ⟨k, i, s, l, ks⟩ := d
  obtain ⟨aA, cA2, aK, cK, rfl, _, _⟩ := hV.parts
  have HM := hide hM
  clear hV hsm hN hS hLn hL hlen hM hC hB ht hspec hcat
  simp only at htold cS cA cC cP cL cX ⊢
  have hB0 := (Below.refl w.heap.size w).alloc (Nat.le_refl _) (.cells #[.int .i64 k, .int .i64 i, .string ⟨s.toArray⟩, .slice aA l.length cA2, .slice aK ks.length cK] 26)
  have hK0 := Blk.new w 26 #[.int .i64 k, .int .i64 i, .string ⟨s.toArray⟩, .slice aA l.length cA2, .slice aK ks.length cK]
  obtain ⟨W0, hW0⟩ : ∃ W0, w.alloc (.cells #[.int .i64 k, .int .i64 i, .string ⟨s.toArray⟩, .slice aA l.length cA2, .slice aK ks.length cK] 26) = W0 := ⟨_, rfl⟩
  rw [hW0] at hB0 hK0
  have HW0 := hide hW0
  have HB0 := hide hB0; have HK0 := hide hK0
  clear hW0 hB0 hK0
  by_cases hc0 : C = 0
  · subst hc0
    rcases Bool.eq_false_or_eq_true B with gB | gB
    · subst gB
      have hTD := hide (htold.out rfl rfl)
      clear htold
      go_enter Tryd.func9, Tryd.ntmps9
      go_wp2_with fail
      rw [HW0.out]
      go_wp2_with fail
      refine (cA.out _ HB0.out).mono ?_
      rintro e w1 ⟨rfl, hb1⟩
      have HB1 := hide (below_step HB0.out hb1)
      have hK1 := HK0.out.below hb1 HK0.out.lt
      have r0 := hK1.cell 0; have r1 := hK1.cell 1; have r2 := hK1.cell 2; have r3 := hK1.cell 3; have r4 := hK1.cell 4
      simp at r0 r1 r2 r3 r4
      have HK1 := hide hK1
      clear hK1 hb1
      go_wp2_with (first
        | (go_at_call 18; refine (cC.out _ HB1.out).mono ?_; rintro e w2 ⟨rfl, hb2⟩; have HB2 := hide (below_step HB1.out hb2); have hK2 := HK1.out.below hb2 HK1.out.lt; have r0 := hK2.cell 0; have r1 := hK2.cell 1; have r2 := hK2.cell 2; have r3 := hK2.cell 3; have r4 := hK2.cell 4; simp at r0 r1 r2 r3 r4; have HK2 := hide hK2; clear hK2 hb2)
        | (go_at_call 15; refine (cP.out _ HB2.out).mono ?_; rintro e w3 ⟨rfl, hb3⟩; have HB3 := hide (below_step HB2.out hb3); have hK3 := HK2.out.below hb3 HK2.out.lt; have r0 := hK3.cell 0; have r1 := hK3.cell 1; have r2 := hK3.cell 2; have r3 := hK3.cell 3; have r4 := hK3.cell 4; simp at r0 r1 r2 r3 r4; have HK3 := hide hK3; clear hK3 hb3)
        | (go_at_call 14; refine (cL.out _ HB3.out).mono ?_; rintro e w4 ⟨rfl, hb4⟩; have HB4 := hide (below_step HB3.out hb4); have hK4 := HK3.out.below hb4 HK3.out.lt; have HK4 := hide hK4; clear hK4 hb4 r0 r1 r2 r3 r4))
      refine (cX.out _ HB4.out).mono ?_
      rintro e w5 ⟨v5, P, n, er, rfl, hT, hown, hb5⟩
      have HB5 := hide (below_step HB4.out hb5)
      have HK5 := hide (HK4.out.below hb5 HK4.out.lt)
      clear hb5
      obtain ⟨A1, c1, rfl⟩ := own_sliceL hown
      have hT := hide hT
      have HO := hide hown
      clear hown
      by_cases hlong : 60000 < t.length + 2
      · have hl : decide ((60000 : Int) < 1 + (t.length : Int) + 1) = true := by simp; omega
        go_wp2_with fail
        go_ret
        exact ⟨rfl, HB5.out⟩
      · have hl : decide ((60000 : Int) < 1 + (t.length : Int) + 1) = false := by simp; omega
        obtain ⟨hgood, hre⟩ := hTD.out _ _ _ hT.out (by omega)
        have HG := hide hgood
        have hre := hide hre
        have hPz := told_len hT.out
        obtain ⟨N, hN⟩ : ∃ N, P.length = N := ⟨_, rfl⟩
        rw [hN] at hPz ⊢
        have HN := hide hN
        clear hgood hT hTD hN
        go_wp2_with fail
        go_loopw [7] (fun i wr => ∃ j : Nat, i = .int .i64 (j : Int) ∧ j ≤ N ∧ Below w5.heap.size w5 wr) (fun i _ => N - (intOf i).toNat)
        case atStart => exact ⟨0, rfl, Nat.zero_le _, Below.refl _ _⟩
        case round =>
          obtain ⟨j, rfl, hj, hb⟩ := hrel
          by_cases hjl : j < N
          · obtain ⟨q, hq⟩ : ∃ q, P[j]? = some q := ⟨_, List.getElem?_eq_getElem (by have := HN.out; omega)⟩
            obtain ⟨g, cap, he, hgl, d0, d1, d2⟩ := own_pc HO.out j q hq
            injection he with he1 he2 he3
            obtain ⟨hq3, hq4, hq2⟩ := HG.out q (List.mem_of_getElem? hq)
            obtain ⟨qk, qt, qp⟩ := q
            simp only at d0 d1 d2 hq3 hq4 hq2
            have d0 := (hb.cell (p := ⟨g, j * 3, none⟩) hgl).trans d0
            have d1 := (hb.cell (p := ⟨g, j * 3 + 1, none⟩) hgl).trans d1
            have d2 := (hb.cell (p := ⟨g, j * 3 + 2, none⟩) hgl).trans d2
            have hglr : g < wr.heap.size := Nat.lt_of_lt_of_le hgl hb.size
            have hjn : (j : Int) < (N : Int) := by omega
            have k3 : (qk == 3) = false := by simpa using hq3
            have k4 : (qk == 4) = false := by simpa using hq4
            have hq2 := hide hq2
            subst he1; subst he3
            clear hq3 hq4 hq he2
            by_cases hk2 : qk = 2
            · subst hk2
              obtain ⟨x, ⟨hx, hxm⟩, rfl⟩ := hq2.out rfl
              have hxl : x.length ≤ 100000000 := Nat.le_trans hxm (Nat.le_trans HM.out (by decide))
              have cT := text_any 34 x qp
              rw [show (34 :: (escR x ++ [34])) = quoteL x from rfl] at cT
              have cY := cS.out
              obtain ⟨Y, hY⟩ : ∃ Y : ByteArray, (⟨(repairR x).toArray⟩ : ByteArray) = Y := ⟨_, rfl⟩
              obtain ⟨X, hX⟩ : ∃ X : ByteArray, (⟨(quoteL x).toArray⟩ : ByteArray) = X := ⟨_, rfl⟩
              have cY := fun W h => cY W h x hx
              have cT := fun W => cT W hxl
              rw [hY] at cT cY
              rw [hX] at cT d1
              have cT := hide cT; have cY := hide cY
              have hKr := HK5.out.below hb HK5.out.lt
              clear hY hX hx hxl hxm
              go_wp2_with fail
              refine (cT.out _).mono ?_
              rintro e w6 ⟨rfl, hb6⟩
              have hb7 := hb.trans (hb6.mono hb.size)
              have HB7 := hide (below_step HB5.out hb7)
              have hK7 := hKr.below hb6 hKr.lt
              have r0 := hK7.cell 0; have r1 := hK7.cell 1; have r2 := hK7.cell 2; have r3 := hK7.cell 3; have r4 := hK7.cell 4
              simp at r0 r1 r2 r3 r4
              have d0 := (hb6.cell (p := ⟨g, j * 3, none⟩) hglr).trans d0
              go_wp2_with (go_at_call 30; refine (cY.out _ HB7.out).mono ?_; rintro e w8 ⟨rfl, hb8⟩)
              go_roundw
              case rel => exact ⟨j + 1, by go_num, by omega, hb7.trans (hb8.mono hb7.size)⟩
              case measure => simp [intOf]; omega
            · have cT := hide (fun W => text_other qk ⟨qt.toArray⟩ qp W hk2)
              have k2 : (qk == 2) = false := by simpa using hk2
              clear hk2
              go_wp2_with fail
              refine (cT.out _).mono ?_
              rintro e w6 ⟨rfl, hb6⟩
              have hb7 := hb.trans (hb6.mono hb.size)
              have d0 := (hb6.cell (p := ⟨g, j * 3, none⟩) hglr).trans d0
              go_wp2_with fail
              go_roundw
              case rel => exact ⟨j + 1, by go_num, by omega, hb7⟩
              case measure => simp [intOf]; omega
          · obtain rfl : j = N := by omega
            have hif : decide ((j : Int) < (j : Int)) = false := by simp
            rcases hre.out with rfl | rfl
            · go_wp2_with fail
              go_ret
              exact ⟨rfl, below_step HB5.out hb⟩
            · go_wp2_with fail
              go_ret
              exact ⟨rfl, below_step HB5.out hb⟩
    · subst gB
      clear htold cX cS cL
      go_enter Tryd.func9, Tryd.ntmps9
      go_wp2_with fail
      rw [HW0.out]
      go_wp2_with fail
      refine (cA.out _ HB0.out).mono ?_
      rintro e w1 ⟨rfl, hb1⟩
      have HB1 := hide (below_step HB0.out hb1)
      have hK1 := HK0.out.below hb1 HK0.out.lt
      have r0 := hK1.cell 0; have r1 := hK1.cell 1; have r2 := hK1.cell 2; have r3 := hK1.cell 3; have r4 := hK1.cell 4
      simp at r0 r1 r2 r3 r4
      have HK1 := hide hK1
      clear hK1 hb1
      go_wp2_with (first
        | (go_at_call 18; refine (cC.out _ HB1.out).mono ?_; rintro e w2 ⟨rfl, hb2⟩; have HB2 := hide (below_step HB1.out hb2); have hK2 := HK1.out.below hb2 HK1.out.lt; have r0 := hK2.cell 0; have r1 := hK2.cell 1; have r2 := hK2.cell 2; have r3 := hK2.cell 3; have r4 := hK2.cell 4; simp at r0 r1 r2 r3 r4; clear hK2 hb2)
        | (go_at_call 15; refine (cP.out _ HB2.out).mono ?_; rintro e w3 ⟨rfl, hb3⟩))
      go_ret
      exact ⟨rfl, below_step HB2.out hb3⟩
  · have hcf : (C != 0) = true := by simpa using hc0
    clear htold cX cS cL cP
    go_enter Tryd.func9, Tryd.ntmps9
    go_wp2_with fail
    rw [HW0.out]
    go_wp2_with fail
    refine (cA.out _ HB0.out).mono ?_
    rintro e w1 ⟨rfl, hb1⟩
    have HB1 := hide (below_step HB0.out hb1)
    have hK1 := HK0.out.below hb1 HK0.out.lt
    have r0 := hK1.cell 0; have r1 := hK1.cell 1; have r2 := hK1.cell 2; have r3 := hK1.cell 3; have r4 := hK1.cell 4
    simp at r0 r1 r2 r3 r4
    clear hK1 hb1
    go_wp2_with (go_at_call 18; refine (cC.out _ HB1.out).mono ?_; rintro e w2 ⟨rfl, hb2⟩)
    go_ret
    exact ⟨rfl, below_step HB1.out hb2⟩
end Go.Proofs.YtdnmgpidfjkiaaaDoor
