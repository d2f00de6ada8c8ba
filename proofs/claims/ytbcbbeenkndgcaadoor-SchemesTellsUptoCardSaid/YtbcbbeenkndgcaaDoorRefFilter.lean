/-
  muslinref06: Scheme, Allowed, Filter.
-/
import Derived.Test.YtbcbbeenkndgcaaDoorFiltSpec
import Derived.Test.YtbcbbeenkndgcaaDoorRefLow
import Derived.Test.YtbcbbeenkndgcaaDoorRefPct
namespace Go.Proofs.YtbcbbeenkndgcaaDoor
open Go.RowKit
set_option linter.unusedVariables false
set_option linter.unusedSimpArgs false

theorem take_str (l : List UInt8) (k : Nat) : (⟨l.toArray⟩ : ByteArray).extract 0 k = ⟨(l.take k).toArray⟩ := Lib.extract_upto _ _
set_option maxHeartbeats 2000000 in
set_option maxRecDepth 100000 in
theorem refScheme_any (l : List UInt8) (w : World) (hz : l.length ≤ 1000000000) :
    Calls Tryd.prog 29 #[.string ⟨l.toArray⟩] w fun e w' => e = .returned (.tuple #[.string ⟨(schemeB l).1.toArray⟩, .bool (schemeB l).2]) ∧ Below w.heap.size w w' := by
  go_enter Tryd.func29, Tryd.ntmps29
  go_wp2
  go_loop [4] (fun i => ∃ k : Nat, i = .int .i64 (k : Int) ∧ k ≤ l.length ∧ Hid (plainTo l k)) (fun i => l.length - (intOf i).toNat)
  case atStart => exact ⟨0, rfl, Nat.zero_le _, fun j c hj _ => by omega⟩
  case round =>
    obtain ⟨k, rfl, hk, hrel⟩ := hrel
    by_cases hlt : k < l.length
    · have hlz : k < (⟨l.toArray⟩ : ByteArray).size := by rw [mk_size]; exact hlt
      obtain ⟨c, hc⟩ : ∃ c, (⟨l.toArray⟩ : ByteArray)[k]'hlz = c := ⟨_, rfl⟩
      have hlc : l[k] = c := hc
      have hc' : l[k]? = some c := by rw [List.getElem?_eq_getElem hlt, hlc]
      have hdec := take_cons_drop l k c hlt hlc
      have hpt := plainTo_take hrel.out (Nat.le_of_lt hlt)
      have hki : (k : Int) < (l.length : Int) := by omega
      have he : ender c = (c.toNat == 47 || c.toNat == 63 || c.toNat == 35) := rfl
      by_cases h1 : c.toNat = 58
      · have e1 : ((c.toNat : Int) == 58) = true := by simp; omega
        have hs : schemeB l = ((l.take k).map smallB, true) := by
          rw [hdec, show c = 58 from UInt8.toNat_inj.1 h1]
          have := scheme_colon (l.drop (k + 1)) hpt
          rw [this]
          rw [List.take_append_of_le_length (by rw [List.length_take]; omega), List.take_take]
          simp
        have HS := hide hs
        have cL := hide (fun w => refLow_any (l.take k) w (by rw [List.length_take]; omega))
        rw [← take_str] at cL
        clear h1 he hs hdec hpt hc' hlc
        go_wp2_with (go_at_call 67; refine (cL.out _).mono ?_; rintro e w1 ⟨rfl, hb1⟩)
        go_ret2
        exact ⟨by rw [HS.out, List.map_take]; rfl, hb1⟩
      · have e1 : ((c.toNat : Int) == 58) = false := by simp; omega
        have h58 : c ≠ 58 := fun e => h1 (by rw [e]; rfl)
        have hend : ender c = true → Hid (schemeB l = ([], false)) := fun h => by
          show _ = _
          rw [hdec]
          exact scheme_ender (l.drop (k + 1)) c hpt h58 h
        by_cases h2 : c.toNat = 47
        · have e2 : ((c.toNat : Int) == 47) = true := by simp; omega
          have HS := hend (by rw [he]; simp [h2])
          clear h1 h2 he hend hdec hpt hc' hlc
          go_wp2_with fail
          go_ret2
          exact ⟨by rw [HS.out]; rfl, Below.refl _ _⟩
        · have e2 : ((c.toNat : Int) == 47) = false := by simp; omega
          by_cases h3 : c.toNat = 63
          · have e3 : ((c.toNat : Int) == 63) = true := by simp; omega
            have HS := hend (by rw [he]; simp [h3])
            clear h1 h2 h3 he hend hdec hpt hc' hlc
            go_wp2_with fail
            go_ret2
            exact ⟨by rw [HS.out]; rfl, Below.refl _ _⟩
          · have e3 : ((c.toNat : Int) == 63) = false := by simp; omega
            by_cases h4 : c.toNat = 35
            · have e4 : ((c.toNat : Int) == 35) = true := by simp; omega
              have HS := hend (by rw [he]; simp [h4])
              clear h1 h2 h3 h4 he hend hdec hpt hc' hlc
              go_wp2_with fail
              go_ret2
              exact ⟨by rw [HS.out]; rfl, Below.refl _ _⟩
            · have e4 : ((c.toNat : Int) == 35) = false := by simp; omega
              have hn := hide (hrel.out.next hc' h58 (by rw [he]; simp [h2, h3, h4]))
              clear h1 h2 h3 h4 he hend hdec hpt hc' hlc
              go_wp2_with fail
              go_round
              case rel => exact ⟨k + 1, by go_num, by omega, hn⟩
              case measure => simp [intOf]; omega
    · have hk2 : k = l.length := by omega
      have HS := hide (scheme_none (by rw [← hk2]; exact hrel.out : plainTo l l.length))
      clear hk2 hrel
      go_wp2_with fail
      go_ret2
      exact ⟨by rw [HS.out]; rfl, Below.refl _ _⟩
set_option maxHeartbeats 1000000 in
set_option maxRecDepth 100000 in
theorem refAllowed_any (l : List UInt8) (w : World) : Calls Tryd.prog 30 #[.string ⟨l.toArray⟩] w fun e w' => e = .returned (.bool (allowB l)) ∧ w = w' := by
  have ha : allowB l = (l == [104, 116, 116, 112] || (l == [104, 116, 116, 112, 115] || l == [109, 97, 105, 108, 116, 111])) := rfl
  rw [ha]
  clear ha
  rcases Bool.eq_false_or_eq_true (l == [104, 116, 116, 112]) with g1 | g1
  · rw [g1]
    go_enter Tryd.func30, Tryd.ntmps30
    go_wp2_with fail
    go_ret
    exact ⟨rfl, rfl⟩
  · rcases Bool.eq_false_or_eq_true (l == [104, 116, 116, 112, 115]) with g2 | g2
    · rw [g1, g2]
      go_enter Tryd.func30, Tryd.ntmps30
      go_wp2_with fail
      go_ret
      exact ⟨rfl, rfl⟩
    · rw [g1, g2]
      go_enter Tryd.func30, Tryd.ntmps30
      go_wp2_with fail
      go_ret
      exact ⟨by simp, rfl⟩
set_option maxHeartbeats 1000000 in
set_option maxRecDepth 100000 in
theorem refFilter_any (l : List UInt8) (w : World) (hz : l.length ≤ 100000000) :
    Calls Tryd.prog 31 #[.string ⟨l.toArray⟩] w fun e w' => e = .returned (.string ⟨(filterB l).toArray⟩) ∧ Below w.heap.size w w' := by
  have cS := hide (fun w => refScheme_any l w (by omega))
  have hf : filterB l = if (schemeB l).2 && !allowB (schemeB l).1 then markerL else pctR true (repairR l) := rfl
  have cA := hide (fun w => refAllowed_any (schemeB l).1 w)
  have cP := hide (fun w => refPercent_any l true w hz)
  generalize schemeB l = sc at cS hf cA
  obtain ⟨x, b⟩ := sc
  simp only at cS hf cA
  generalize allowB x = ab at cA hf
  cases b
  · have HF := hide (show filterB l = pctR true (repairR l) by rw [hf]; rfl)
    clear hf
    go_enter Tryd.func31, Tryd.ntmps31
    go_wp2_with fail
    refine (cS.out _).mono ?_
    rintro e w1 ⟨rfl, hb1⟩
    go_wp2_with (go_at_call 68; refine (cP.out _).mono ?_; rintro e w2 ⟨rfl, hb2⟩)
    go_ret
    exact ⟨by rw [HF.out]; rfl, below_step hb1 hb2⟩
  · cases ab
    · have HF := hide (show filterB l = markerL by rw [hf]; rfl)
      clear hf
      go_enter Tryd.func31, Tryd.ntmps31
      go_wp2_with fail
      refine (cS.out _).mono ?_
      rintro e w1 ⟨rfl, hb1⟩
      go_wp2_with (go_at_call 30; refine (cA.out _).mono ?_; rintro e w2 ⟨rfl, rfl⟩)
      go_ret
      exact ⟨by rw [HF.out]; rfl, hb1⟩
    · have HF := hide (show filterB l = pctR true (repairR l) by rw [hf]; rfl)
      clear hf
      go_enter Tryd.func31, Tryd.ntmps31
      go_wp2_with fail
      refine (cS.out _).mono ?_
      rintro e w1 ⟨rfl, hb1⟩
      go_wp2_with (first | (go_at_call 30; refine (cA.out _).mono ?_; rintro e w2 ⟨rfl, rfl⟩) | (go_at_call 68; refine (cP.out _).mono ?_; rintro e w2 ⟨rfl, hb2⟩))
      go_ret
      exact ⟨by rw [HF.out]; rfl, below_step hb1 hb2⟩
theorem filterB_len (l : List UInt8) : (filterB l).length ≤ 12 * l.length + 9 := by
  unfold filterB
  split
  · simp [markerL]
  · have := pctR_len true (repairR l); have := repairR_len l; omega
end Go.Proofs.YtbcbbeenkndgcaaDoor
