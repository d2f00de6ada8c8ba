/-
  LiteralCuts: THE WALK.
-/
import Derived.Test.YtdnmgpidfjkiaaaDoorAlive05
import Derived.Test.YtdnmgpidfjkiaaaDoorVMass
import Derived.Test.YtdnmgpidfjkiaaaDoorVLitP
import Derived.Test.YtdnmgpidfjkiaaaDoorVCheck4
import Derived.Test.YtdnmgpidfjkiaaaDoorM2
import Derived.Test.YtdnmgpidfjkiaaaDoorLaidL
namespace Go.Proofs.YtdnmgpidfjkiaaaDoor
open Go.RowKit
set_option linter.unusedVariables false
set_option linter.unusedSimpArgs false

theorem any_okL : ∀ (w w' : World) (b : Nat), Below w.heap.size w w' → b < w.heap.size → anyB w b → anyB w' b := fun _ _ _ _ _ _ => trivial
/-- A literal's first octet. -/
theorem lit_front {m : Nat} (d : VN (VT m)) (h : 4 ≤ d.k) : ∃ c r, litR (m + 1) d = c :: r ∧ (c = 34 ∨ c = 91 ∨ c = 123) := by
  obtain ⟨k, i, s, l, ks⟩ := d
  have h : 4 ≤ k := h
  rw [lit_mk, if_neg (by omega), if_neg (by omega), if_neg (by omega), if_neg (by omega)]
  by_cases h5 : k = 5
  · rw [if_pos h5]; exact ⟨_, _, rfl, .inr (.inl rfl)⟩
  · rw [if_neg h5]
    by_cases h6 : k = 6
    · rw [if_pos h6]; exact ⟨_, _, rfl, .inr (.inr rfl)⟩
    · rw [if_neg h6]; exact ⟨_, _, rfl, .inl rfl⟩
theorem cut_at (a : Int) (L : Nat) (hL : 0 < L) : ∃ r : Nat, (a.tmod L + L).tmod L = r ∧ r < L := by
  have h1 := Int.lt_tmod_of_pos a (show (0 : Int) < L by omega)
  have h2 := Int.tmod_lt_of_pos a (show (0 : Int) < L by omega)
  have h3 := Int.tmod_lt_of_pos (a.tmod L + L) (show (0 : Int) < L by omega)
  have h4 := Int.tmod_nonneg (L : Int) (show 0 ≤ a.tmod L + L by omega)
  exact ⟨((a.tmod L + L).tmod L).toNat, by omega, by omega⟩
set_option maxHeartbeats 2000000 in
set_option maxRecDepth 100000 in
theorem literalCuts_walk (v : Value) (a1 : Int) (lo1 : -9223372036854775808 ≤ a1) (hi1 : a1 ≤ 9223372036854775807) (w : World) (n : Nat) (d : VT n) (hV : IsV anyB w n v d) (hM : massV n d ≤ 1048576) (hN : NumV n d) (hT : Lib.Utf8Tabs 3 4 w) :
    Calls Tryd.prog 5 #[v, .int .i64 a1] w fun e w' => e = .returned (.bool true) ∧ Below w.heap.size w w' := by
  cases n with
  | zero => exact hV.elim
  | succ m =>
  have hsm := small_of_mass (m + 1) d hM
  have cA := hide (fun W (h : Below w.heap.size w W) => alive05 W (Utf8Tabs_below hT h))
  have cC := hide (fun W (h : Below w.heap.size w W) => refCheck_any (m + 1) anyB any_okL _ _ W (IsV.on (stays_any h) (m + 1) _ _ hV) hsm)
  have cL := hide (fun W (h : Below w.heap.size w W) => refLitP_any (m + 1) _ _ W (Utf8Tabs_below hT h) (IsV.on (stays_any h) (m + 1) _ _ hV) hsm hN (by omega))
  have hlen := litR_len (m + 1) d hN
  have hfr := lit_front d
  have hfull := readR_full d
  obtain ⟨C, hC⟩ : ∃ C, checkV (m + 1) 0 d = C := ⟨_, rfl⟩
  obtain ⟨t, ht⟩ : ∃ t, litR (m + 1) d = t := ⟨_, rfl⟩
  rw [hC] at cC hfull
  rw [ht] at cL hlen hfr hfull
  have hCUT : C = 0 → 4 ≤ d.k → 0 < t.length ∧ ∀ at_, at_ < t.length → readR risingK (t.take at_) = .bad 33 := by
    intro h0 h4
    obtain ⟨c, r, he, hc⟩ := hfr h4
    obtain ⟨y, hy⟩ := hfull h0 hN
    refine ⟨by rw [he]; simp, fun at_ ha => readR_cut hy ⟨c, r, he, hc⟩ at_ ha⟩
  clear hC ht hfr hfull
  obtain ⟨k, i, s, l, ks⟩ := d
  obtain ⟨aA, cA2, aK, cK, rfl, _, _⟩ := hV.parts
  have htl : t.length ≤ 31457280 := by omega
  clear hV hsm hN hT hlen hM
  simp only at hCUT ⊢
  have hB0 := (Below.refl w.heap.size w).alloc (Nat.le_refl _) (.cells #[.int .i64 k, .int .i64 i, .string ⟨s.toArray⟩, .slice aA l.length cA2, .slice aK ks.length cK] 26)
  have hK0 := Blk.new w 26 #[.int .i64 k, .int .i64 i, .string ⟨s.toArray⟩, .slice aA l.length cA2, .slice aK ks.length cK]
  obtain ⟨W0, hW0⟩ : ∃ W0, w.alloc (.cells #[.int .i64 k, .int .i64 i, .string ⟨s.toArray⟩, .slice aA l.length cA2, .slice aK ks.length cK] 26) = W0 := ⟨_, rfl⟩
  rw [hW0] at hB0 hK0
  have HW0 := hide hW0
  have HB0 := hide hB0; have HK0 := hide hK0
  clear hW0 hB0 hK0
  have hCUT := hide hCUT
  by_cases hc0 : C = 0
  · subst hc0
    by_cases hk4 : 4 ≤ k
    · have hkf : decide (k < 4) = false := decide_eq_false (by omega)
      obtain ⟨htp, hCU⟩ := hCUT.out rfl hk4
      obtain ⟨r, hr, hrl⟩ := cut_at a1 t.length htp
      have hcut := hCU r hrl
      have hb1 := Int.lt_tmod_of_pos a1 (show (0 : Int) < (t.length : Int) by omega)
      have hb2 := Int.tmod_lt_of_pos a1 (show (0 : Int) < (t.length : Int) by omega)
      have cR := fun W => read_any (t.take r) W (by simp; omega)
      have hms : (⟨t.toArray⟩ : ByteArray).size = t.length := mk_size t
      have HCU := hide hcut
      clear hCU hCUT hcut
      have cR := hide cR
      go_enter Tryd.func5, Tryd.ntmps5
      go_wp2_with fail
      rw [HW0.out]
      go_wp2_with fail
      refine (cA.out _ HB0.out).mono ?_
      rintro e w1 ⟨rfl, hb1⟩
      have HB1 := hide (below_step HB0.out hb1)
      have hK1 := HK0.out.below hb1 HK0.out.lt
      have r0 := hK1.cell 0; have r1 := hK1.cell 1; have r2 := hK1.cell 2; have r3 := hK1.cell 3; have r4 := hK1.cell 4
      simp at r0 r1 r2 r3 r4
      have zk := hK1.lt
      have HK1 := hide hK1
      clear hK1 hb1
      go_wp2_with (first
        | (go_at_call 18; refine (cC.out _ HB1.out).mono ?_; rintro e w2 ⟨rfl, hb2⟩; have HB2 := hide (below_step HB1.out hb2); have hK2 := HK1.out.below hb2 HK1.out.lt; have r0 := hK2.cell 0; have r1 := hK2.cell 1; have r2 := hK2.cell 2; have r3 := hK2.cell 3; have r4 := hK2.cell 4; simp at r0 r1 r2 r3 r4; clear hK2 hb2)
        | (go_at_call 19; refine (cL.out _ HB2.out).mono ?_; rintro e w3 ⟨rfl, hb3⟩; have HB3 := hide (below_step HB2.out hb3); clear hb3))
      rw [show (⟨t.toArray⟩ : ByteArray).extract 0 r = ⟨(t.take r).toArray⟩ by apply ByteArray.ext; simp]
      refine (cR.out _).mono ?_
      rintro e w4 (⟨d', v', hd, _⟩ | ⟨y, hd, rfl, hb4⟩)
      · rw [HCU.out] at hd; cases hd
      · rw [HCU.out] at hd
        injection hd with hd
        subst hd
        have hB4 := below_step HB3.out hb4
        clear hb4
        go_wp2_with (go_at_call 13; refine (num05_any _ _).mono ?_; rintro e w5 ⟨rfl, rfl⟩)
        go_ret
        first | exact ⟨rfl, hB4⟩ | exact ⟨rfl, hB4.alloc hB4.size _⟩
    · have hkf : decide (k < 4) = true := decide_eq_true (by omega)
      clear hCUT
      go_enter Tryd.func5, Tryd.ntmps5
      go_wp2_with fail
      rw [HW0.out]
      go_wp2_with fail
      refine (cA.out _ HB0.out).mono ?_
      rintro e w1 ⟨rfl, hb1⟩
      have HB1 := hide (below_step HB0.out hb1)
      have hK1 := HK0.out.below hb1 HK0.out.lt
      have r0 := hK1.cell 0; have r1 := hK1.cell 1; have r2 := hK1.cell 2; have r3 := hK1.cell 3; have r4 := hK1.cell 4
      simp at r0 r1 r2 r3 r4
      have zk := hK1.lt
      have HK1 := hide hK1
      clear hK1 hb1
      go_wp2_with (go_at_call 18; refine (cC.out _ HB1.out).mono ?_; rintro e w2 ⟨rfl, hb2⟩; have HB2 := hide (below_step HB1.out hb2); have hK2 := HK1.out.below hb2 HK1.out.lt; have r0 := hK2.cell 0; have r1 := hK2.cell 1; have r2 := hK2.cell 2; have r3 := hK2.cell 3; have r4 := hK2.cell 4; simp at r0 r1 r2 r3 r4; clear hK2 hb2)
      go_ret
      exact ⟨rfl, HB2.out⟩
  · have hcf : (C != 0) = true := by simpa using hc0
    clear hCUT
    go_enter Tryd.func5, Tryd.ntmps5
    go_wp2_with fail
    rw [HW0.out]
    go_wp2_with fail
    refine (cA.out _ HB0.out).mono ?_
    rintro e w1 ⟨rfl, hb1⟩
    have HB1 := hide (below_step HB0.out hb1)
    have hK1 := HK0.out.below hb1 HK0.out.lt
    have r0 := hK1.cell 0; have r1 := hK1.cell 1; have r2 := hK1.cell 2; have r3 := hK1.cell 3; have r4 := hK1.cell 4
    simp at r0 r1 r2 r3 r4
    clear hK1 hb1
    go_wp2_with (go_at_call 18; refine (cC.out _ HB1.out).mono ?_; rintro e w2 ⟨rfl, hb2⟩)
    go_ret
    exact ⟨rfl, below_step HB1.out hb2⟩
end Go.Proofs.YtdnmgpidfjkiaaaDoor
