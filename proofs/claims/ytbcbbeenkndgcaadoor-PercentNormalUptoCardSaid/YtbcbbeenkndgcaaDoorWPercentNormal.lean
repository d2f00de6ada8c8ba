/-
  PercentNormal: a normal text has but reserved, unreserved octets, and % ; it is its own. THE WALK.
-/
import Derived.Test.YtbcbbeenkndgcaaDoorWPercentBack
import Derived.Test.YtbcbbeenkndgcaaDoorNormSpec
namespace Go.Proofs.YtbcbbeenkndgcaaDoor
open Go.RowKit
set_option linter.unusedVariables false
set_option linter.unusedSimpArgs false

set_option maxHeartbeats 1000000 in
set_option maxRecDepth 100000 in
theorem percentNormal_walk (a0 : ByteArray) (s0 : a0.size ≤ 1048576) (w : World) (hT : Lib.Utf8Tabs 3 4 w) :
    Calls Tryd.prog 5 #[.string a0] w fun e w' => e = .returned (.bool true) ∧ Below w.heap.size w w' := by
  obtain ⟨s, rfl⟩ : ∃ l : List UInt8, a0 = ⟨l.toArray⟩ := ⟨a0.data.toList, rfl⟩
  rw [mk_size] at s0
  have cN := fun w hT => normal_any s w (by omega) hT
  have hl1 := repairR_len s
  have hl2 := pctR_len true (repairR s)
  have hN := normT_pct (repairR s)
  have hmem := hide (norm_mem hN)
  have hz : (pctR true (repairR s)).length ≤ 100000000 := by omega
  have cN2 := fun w hT => normal_any (pctR true (repairR s)) w hz hT
  rw [normal_again] at cN2
  have cD := fun w => pctDecode_any (pctR true (repairR s)) w (by omega)
  rw [norm_unp hN] at cD
  simp only [if_true] at cD
  generalize (unp (pctR true (repairR s))).1 = u at cD
  clear hN hl1 hl2
  generalize pctR true (repairR s) = t at cN cN2 cD hmem hz
  have cN := hide cN; have cN2 := hide cN2; have cD := hide cD
  have hzi : (t.length : Int) ≤ 100000000 := by omega
  go_enter Tryd.func5, Tryd.ntmps5
  go_wp2_with fail
  refine (alive07 _ hT).mono ?_
  rintro e w1 ⟨rfl, hb1⟩
  have hT1 := u8keep hT hb1
  go_wp2_with fail
  refine (cN.out _ hT1).mono ?_
  rintro e w2 ⟨rfl, hb2⟩
  have hB2 := below_step hb1 hb2
  go_wp2_with fail
  go_loopw [4] (fun i wr => ∃ (k : Nat), i = .int .i64 (k : Int) ∧ k ≤ t.length ∧ Below w.heap.size w wr) (fun i _ => t.length - (intOf i).toNat)
  case atStart => exact ⟨0, rfl, Nat.zero_le _, hB2⟩
  case round =>
    obtain ⟨k, rfl, hk, hb⟩ := hrel
    by_cases hlt : k < t.length
    · have hlz : k < (⟨t.toArray⟩ : ByteArray).size := by rw [mk_size]; exact hlt
      obtain ⟨x, hx⟩ : ∃ x, (⟨t.toArray⟩ : ByteArray)[k]'hlz = x := ⟨_, rfl⟩
      have hlx : t[k] = x := hx
      have hki : (k : Int) < (t.length : Int) := by omega
      have hmx := hmem.out x (by rw [← hlx]; exact List.getElem_mem hlt)
      have cR := fun w => res_any x w
      have cU := fun w => unres_any x w
      by_cases h37 : x = 37
      · subst h37
        clear hmx cR cU hlx
        go_wp2_with fail
        go_roundw
        case rel => exact ⟨k + 1, by go_num, by omega, hb⟩
        case measure => simp [intOf]; omega
      · have hne : ¬ (x.toNat : Int) = 37 := by
          intro h; apply h37; apply UInt8.toNat_inj.1; show x.toNat = 37; omega
        have hne' : ((x.toNat : Int) != 37) = true := by simpa using hne
        have h37' : (x == 37) = false := by simpa using h37
        rw [h37', Bool.false_or] at hmx
        by_cases hr : resB x = true
        · rw [hr] at cR
          have cR := hide cR
          clear hmx hr cU hlx h37 hne h37'
          go_wp2_with (go_at_call 23; refine (cR.out _).mono ?_; rintro e w3 ⟨rfl, rfl⟩)
          go_roundw
          case rel => exact ⟨k + 1, by go_num, by omega, hb⟩
          case measure => simp [intOf]; omega
        · have hr : resB x = false := by simpa using hr
          have hu : unresB x = true := by rw [hr, Bool.false_or] at hmx; exact hmx
          rw [hr] at cR
          rw [hu] at cU
          have cR := hide cR; have cU := hide cU
          clear hmx hr hu hlx h37 hne h37'
          go_wp2_with (first | (go_at_call 23; refine (cR.out _).mono ?_; rintro e w3 ⟨rfl, rfl⟩) | (go_at_call 24; refine (cU.out _).mono ?_; rintro e w4 ⟨rfl, rfl⟩))
          go_roundw
          case rel => exact ⟨k + 1, by go_num, by omega, hb⟩
          case measure => simp [intOf]; omega
    · have hge : decide ((k : Int) < (t.length : Int)) = false := by simp; omega
      go_wp2_with fail
      refine (cD.out _).mono ?_
      rintro e w3 ⟨rfl, hb3⟩
      have hB3 := below_step hb hb3
      have hT3 := u8keep hT hB3
      go_wp2_with (first
        | (go_at_call 22; refine (cN2.out _ hT3).mono ?_; rintro e w4 ⟨rfl, hb4⟩; have hB4 := below_step hB3 hb4)
        | (go_at_call 18; refine (num07 _ _).mono ?_; rintro e w5 ⟨rfl, rfl⟩))
      go_ret
      exact ⟨rfl, hB4⟩
end Go.Proofs.YtbcbbeenkndgcaaDoor
