/-
  muslinref06: Unreserved, Reserved, run, coded, Percent.
-/
import Derived.Test.YtbcbbeenkndgcaaDoorPctSpec
import Derived.Test.YtbcbbeenkndgcaaDoorRefChr
import Derived.Test.YtbcbbeenkndgcaaDoorRefHex
import Derived.Test.YtbcbbeenkndgcaaDoorRefUtf3
namespace Go.Proofs.YtbcbbeenkndgcaaDoor
open Go.RowKit
set_option linter.unusedVariables false
set_option linter.unusedSimpArgs false

def NoneB (l : List UInt8) (c : UInt8) (k : Nat) : Prop := (l.drop k).any (· == c) = l.any (· == c)
theorem drop_cons (l : List UInt8) (k : Nat) (h : k < l.length) : l.drop k = l[k] :: l.drop (k + 1) := List.drop_eq_getElem_cons h
set_option maxHeartbeats 1000000 in
set_option maxRecDepth 100000 in
theorem refHas_any (l : List UInt8) (c : UInt8) (w : World) (hz : l.length ≤ 4611686018427387903) : Calls Tryd.prog 117 #[.string ⟨l.toArray⟩, .int .u8 (c.toNat : Int)] w fun e w' => e = .returned (.bool (l.any (· == c))) ∧ w = w' := by
  go_enter Tryd.func117, Tryd.ntmps117
  go_wp2
  go_loop [5] (fun i => ∃ k : Nat, i = .int .i64 (k : Int) ∧ k ≤ l.length ∧ Hid (NoneB l c k)) (fun i => l.length - (intOf i).toNat)
  case atStart => exact ⟨0, rfl, Nat.zero_le _, rfl⟩
  case round =>
    obtain ⟨k, rfl, hk, hrel⟩ := hrel
    by_cases hlt : k < l.length
    · have hlz : k < (⟨l.toArray⟩ : ByteArray).size := by rw [mk_size]; exact hlt
      obtain ⟨x, hx⟩ : ∃ x, (⟨l.toArray⟩ : ByteArray)[k]'hlz = x := ⟨_, rfl⟩
      have hd := drop_cons l k hlt
      rw [show l[k] = x from hx] at hd
      have hr := hrel.out
      unfold NoneB at hr
      rw [hd, List.any_cons] at hr
      by_cases he : x.toNat = c.toNat
      · have e1 : ((x.toNat : Int) == (c.toNat : Int)) = true := by simp; omega
        have hxc : x = c := UInt8.toNat_inj.1 he
        have HF := hide (show true = l.any (· == c) by rw [← hr, hxc]; simp)
        clear hd hr he hxc
        go_wp2_with fail
        go_ret
        exact ⟨ret_bool HF.out, rfl⟩
      · have e1 : ((x.toNat : Int) == (c.toNat : Int)) = false := by simp; omega
        have hxc : (x == c) = false := by simp; intro h; exact he (by rw [h])
        have HF := hide (show NoneB l c (k + 1) by unfold NoneB; rw [← hr, hxc]; rfl)
        clear hd hr he hxc
        go_wp2_with fail
        go_round
        case rel => exact ⟨k + 1, by go_num, by omega, HF⟩
        case measure => simp [intOf]; omega
    · have hk2 : k = l.length := by omega
      have HF := hide (show false = l.any (· == c) by rw [← hrel.out, hk2, List.drop_length]; rfl)
      clear hk2 hrel
      go_wp2_with fail
      go_ret
      exact ⟨ret_bool HF.out, rfl⟩
set_option maxHeartbeats 1000000 in
set_option maxRecDepth 100000 in
theorem refUnres_any (c : UInt8) (w : World) : Calls Tryd.prog 92 #[.int .u8 (c.toNat : Int)] w fun e w' => e = .returned (.bool (unresB c)) ∧ w = w' := by
  have cL := refLet_any c w
  have cD := refDig_any c w
  have hu : unresB c = (isLetter c || (isDig c || (c.toNat == 45 || (c.toNat == 46 || (c.toNat == 95 || c.toNat == 126))))) := rfl
  rcases Bool.eq_false_or_eq_true (isLetter c) with h1 | h1
  · rw [h1] at cL
    rw [show unresB c = true by rw [hu, h1]; rfl]
    have cL := hide cL; have cD := hide cD
    clear hu h1
    go_enter Tryd.func92, Tryd.ntmps92
    go_wp2_with (go_at_call 115; refine (cL.out).mono ?_; rintro e w1 ⟨rfl, rfl⟩)
    go_ret
    exact ⟨rfl, rfl⟩
  · rw [h1] at cL
    rcases Bool.eq_false_or_eq_true (isDig c) with h2 | h2
    · rw [h2] at cD
      rw [show unresB c = true by rw [hu, h1, h2]; rfl]
      have cL := hide cL; have cD := hide cD
      clear hu h1 h2
      go_enter Tryd.func92, Tryd.ntmps92
      go_wp2_with (first | (go_at_call 115; refine (cL.out).mono ?_; rintro e w1 ⟨rfl, rfl⟩) | (go_at_call 116; refine (cD.out).mono ?_; rintro e w1 ⟨rfl, rfl⟩))
      go_ret
      exact ⟨rfl, rfl⟩
    · rw [h2] at cD
      have cL := hide cL; have cD := hide cD
      have hu2 : unresB c = ((c.toNat : Int) == 45 || ((c.toNat : Int) == 46 || ((c.toNat : Int) == 95 || (c.toNat : Int) == 126))) := by
        rw [hu, h1, h2]
        have : ∀ n : Nat, ((c.toNat : Int) == (n : Int)) = (c.toNat == n) := fun n => by rw [Bool.eq_iff_iff, beq_iff_eq, beq_iff_eq]; omega
        rw [show ((45 : Int)) = ((45 : Nat) : Int) from rfl, show ((46 : Int)) = ((46 : Nat) : Int) from rfl, show ((95 : Int)) = ((95 : Nat) : Int) from rfl, show ((126 : Int)) = ((126 : Nat) : Int) from rfl, this, this, this, this]
        rfl
      rw [hu2]
      clear hu hu2 h1 h2
      rcases Bool.eq_false_or_eq_true ((c.toNat : Int) == 45) with g1 | g1
      · rw [g1]
        go_enter Tryd.func92, Tryd.ntmps92
        go_wp2_with (first | (go_at_call 115; refine (cL.out).mono ?_; rintro e w1 ⟨rfl, rfl⟩) | (go_at_call 116; refine (cD.out).mono ?_; rintro e w1 ⟨rfl, rfl⟩))
        go_ret
        exact ⟨rfl, rfl⟩
      · rcases Bool.eq_false_or_eq_true ((c.toNat : Int) == 46) with g2 | g2
        · rw [g1, g2]
          go_enter Tryd.func92, Tryd.ntmps92
          go_wp2_with (first | (go_at_call 115; refine (cL.out).mono ?_; rintro e w1 ⟨rfl, rfl⟩) | (go_at_call 116; refine (cD.out).mono ?_; rintro e w1 ⟨rfl, rfl⟩))
          go_ret
          exact ⟨rfl, rfl⟩
        · rcases Bool.eq_false_or_eq_true ((c.toNat : Int) == 95) with g3 | g3
          · rw [g1, g2, g3]
            go_enter Tryd.func92, Tryd.ntmps92
            go_wp2_with (first | (go_at_call 115; refine (cL.out).mono ?_; rintro e w1 ⟨rfl, rfl⟩) | (go_at_call 116; refine (cD.out).mono ?_; rintro e w1 ⟨rfl, rfl⟩))
            go_ret
            exact ⟨rfl, rfl⟩
          · rw [g1, g2, g3]
            go_enter Tryd.func92, Tryd.ntmps92
            go_wp2_with (first | (go_at_call 115; refine (cL.out).mono ?_; rintro e w1 ⟨rfl, rfl⟩) | (go_at_call 116; refine (cD.out).mono ?_; rintro e w1 ⟨rfl, rfl⟩))
            go_ret
            exact ⟨by simp, rfl⟩
set_option maxHeartbeats 400000 in
set_option maxRecDepth 100000 in
theorem refRes_any (c : UInt8) (w : World) : Calls Tryd.prog 93 #[.int .u8 (c.toNat : Int)] w fun e w' => e = .returned (.bool (resB c)) ∧ w = w' := by
  have cH := hide (refHas_any resL c w (by decide))
  have hr := hide (show resB c = resL.any (· == c) from rfl)
  unfold resL at cH hr
  generalize resB c = b at hr
  generalize List.any _ _ = b2 at cH hr
  obtain rfl : b = b2 := hr.out
  clear hr
  go_enter Tryd.func93, Tryd.ntmps93
  go_wp2_with (go_at_call 117; refine (cH.out).mono ?_; rintro e w1 ⟨rfl, rfl⟩)
  go_ret
  exact ⟨rfl, rfl⟩
def runB (l : List UInt8) (k : Nat) : Nat := ((l.drop k).takeWhile hexB).length
theorem runB_stop (l : List UInt8) (k : Nat) (h : k < l.length) (hx : hexB l[k] = false) : runB l k = 0 := by
  unfold runB; rw [drop_cons l k h, List.takeWhile_cons, hx]; rfl
theorem runB_go (l : List UInt8) (k : Nat) (h : k < l.length) (hx : hexB l[k] = true) : runB l k = 1 + runB l (k + 1) := by
  unfold runB; rw [drop_cons l k h, List.takeWhile_cons, hx]; simp; omega
theorem runB_end (l : List UInt8) (k : Nat) (h : l.length ≤ k) : runB l k = 0 := by
  unfold runB; rw [List.drop_of_length_le h]; rfl
theorem runB_le (l : List UInt8) (k : Nat) : runB l k ≤ l.length - k := by
  unfold runB
  have := (List.takeWhile_sublist (l := l.drop k) hexB).length_le
  rw [List.length_drop] at this
  exact this
set_option maxHeartbeats 2000000 in
set_option maxRecDepth 100000 in
theorem refRun_any (l : List UInt8) (at_ : Nat) (w : World) (hz : l.length ≤ 1000000000) (ha : at_ ≤ 1000000000) :
    Calls Tryd.prog 118 #[.string ⟨l.toArray⟩, .int .i64 (at_ : Int), .bool true] w fun e w' => e = .returned (.int .i64 (runB l at_ : Int)) ∧ w = w' := by
  go_enter Tryd.func118, Tryd.ntmps118
  go_wp2
  go_loop [7] (fun i => ∃ j : Nat, i = .int .i64 (j : Int) ∧ j ≤ l.length - at_ ∧ Hid (j + runB l (at_ + j) = runB l at_)) (fun i => l.length - at_ - (intOf i).toNat)
  case atStart => exact ⟨0, rfl, by omega, by show 0 + runB l (at_ + 0) = _; simp⟩
  case round =>
    obtain ⟨j, rfl, hj, hrel⟩ := hrel
    by_cases hlt : at_ + j < l.length
    · have hlz : at_ + j < (⟨l.toArray⟩ : ByteArray).size := by rw [mk_size]; exact hlt
      obtain ⟨x, hx⟩ : ∃ x, (⟨l.toArray⟩ : ByteArray)[at_ + j]'hlz = x := ⟨_, rfl⟩
      have hlx : l[at_ + j] = x := hx
      have hi : ((at_ : Int) + (j : Int)) < (l.length : Int) := by omega
      have hi2 : ((at_ : Int) + (j : Int)).toNat = at_ + j := by omega
      have cD := refDig_any x w
      have cH := refHas_any [97, 98, 99, 100, 101, 102, 65, 66, 67, 68, 69, 70] x w (by decide)
      have hb : hexB x = (isDig x || ([97, 98, 99, 100, 101, 102, 65, 66, 67, 68, 69, 70] : List UInt8).any (· == x)) := rfl
      generalize ([97, 98, 99, 100, 101, 102, 65, 66, 67, 68, 69, 70] : List UInt8).any (· == x) = hq at cH hb
      generalize isDig x = dq at cD hb
      have cD := hide cD; have cH := hide cH
      have stop : hexB x = false → Hid (runB l at_ = j) := fun h => by
        have := hrel.out
        rw [runB_stop l (at_ + j) hlt (by rw [hlx]; exact h)] at this
        show _ = _; omega
      have go : hexB x = true → Hid (j + 1 + runB l (at_ + (j + 1)) = runB l at_) := fun h => by
        have := hrel.out
        rw [runB_go l (at_ + j) hlt (by rw [hlx]; exact h)] at this
        show _ = _
        rw [← this, show at_ + (j + 1) = at_ + j + 1 by omega]; omega
      have hlq : ((⟨l.toArray⟩ : ByteArray)[at_ + j]'hlz).toNat = x.toNat := by rw [hx]
      cases dq
      · cases hq
        · have HF := stop (by rw [hb]; rfl)
          clear stop go hb hlx hlq
          go_wp2_with (first | (go_at_call 116; refine (cD.out).mono ?_; rintro e w1 ⟨rfl, rfl⟩) | (go_at_call 117; refine (cH.out).mono ?_; rintro e w1 ⟨rfl, rfl⟩))
          go_ret
          exact ⟨by rw [HF.out]; rfl, rfl⟩
        · have HF := go (by rw [hb]; rfl)
          clear stop go hb hlx hlq
          go_wp2_with (first | (go_at_call 116; refine (cD.out).mono ?_; rintro e w1 ⟨rfl, rfl⟩) | (go_at_call 117; refine (cH.out).mono ?_; rintro e w1 ⟨rfl, rfl⟩))
          go_round
          case rel => exact ⟨j + 1, by go_num, by omega, HF⟩
          case measure => simp [intOf]; omega
      · have HF := go (by rw [hb]; rfl)
        clear stop go hb hlx hlq
        go_wp2_with (first | (go_at_call 116; refine (cD.out).mono ?_; rintro e w1 ⟨rfl, rfl⟩) | (go_at_call 117; refine (cH.out).mono ?_; rintro e w1 ⟨rfl, rfl⟩))
        go_round
        case rel => exact ⟨j + 1, by go_num, by omega, HF⟩
        case measure => simp [intOf]; omega
    · have HF := hide (show runB l at_ = j by have := hrel.out; rw [runB_end l (at_ + j) (by omega)] at this; omega)
      have hi : decide (((at_ : Int) + (j : Int)) < (l.length : Int)) = false := by simp; omega
      have hi3 : (l.length : Int) ≤ ((at_ : Int) + (j : Int)) := by omega
      clear hlt
      go_wp2_with fail
      go_ret
      exact ⟨by rw [HF.out]; rfl, rfl⟩
theorem codedB_short {l : List UInt8} {k : Nat} (h : ¬ k + 2 < l.length) : codedB (l.drop k) = false := by
  have hl : (l.drop k).length ≤ 2 := by rw [List.length_drop]; omega
  match hd : l.drop k, hl with
  | [], _ => rfl
  | [a], _ => rfl
  | [a, b], _ => rfl
theorem codedB_long {l : List UInt8} {k : Nat} (h : k + 2 < l.length) : codedB (l.drop k) = ((l[k] == 37) && decide (2 ≤ runB l (k + 1))) := by
  unfold runB
  rw [drop_cons l k (by omega), drop_cons l (k + 1) (by omega), drop_cons l (k + 1 + 1) (by omega)]
  show (_ && (_ && _)) = _
  congr 1
  rw [List.takeWhile_cons, List.takeWhile_cons]
  cases hexB l[k + 1] <;> cases hexB l[k + 1 + 1] <;> simp
set_option maxHeartbeats 1000000 in
set_option maxRecDepth 100000 in
theorem refCoded_any (l : List UInt8) (k : Nat) (w : World) (hz : l.length ≤ 1000000000) (hk : k < l.length) :
    Calls Tryd.prog 94 #[.string ⟨l.toArray⟩, .int .i64 (k : Int)] w fun e w' => e = .returned (.bool (codedB (l.drop k))) ∧ w = w' := by
  have hlz : k < (⟨l.toArray⟩ : ByteArray).size := by rw [mk_size]; exact hk
  obtain ⟨x, hx⟩ : ∃ x, (⟨l.toArray⟩ : ByteArray)[k]'hlz = x := ⟨_, rfl⟩
  have hlx : l[k] = x := hx
  have hki : (k : Int) < (l.length : Int) := by omega
  have cR := refRun_any l (k + 1) w hz (by omega)
  rw [show ((k + 1 : Nat) : Int) = (k : Int) + 1 by omega] at cR
  by_cases h1 : x.toNat = 37
  · have e1 : ((x.toNat : Int) == 37) = true := by simp; omega
    have hx37 : x = 37 := UInt8.toNat_inj.1 h1
    by_cases h2 : k + 2 < l.length
    · have hcb := codedB_long h2
      rw [hlx, hx37] at hcb
      have hrl := runB_le l (k + 1)
      generalize runB l (k + 1) = n at cR hcb hrl
      rw [hcb]
      have h2i : (k : Int) + 2 < (l.length : Int) := by omega
      have cR := hide cR
      by_cases h3 : (2 : Int) ≤ (n : Int)
      · rw [show ((37 : UInt8) == 37 && decide (2 ≤ n)) = true by simp; omega]
        clear hcb hlx hx37 h1 h2 hrl
        go_enter Tryd.func94, Tryd.ntmps94
        go_wp2_with (go_at_call 118; refine (cR.out).mono ?_; rintro e w1 ⟨rfl, rfl⟩)
        go_ret
        exact ⟨rfl, rfl⟩
      · rw [show ((37 : UInt8) == 37 && decide (2 ≤ n)) = false by simp; omega]
        have h3d : decide ((2 : Int) ≤ (n : Int)) = false := by simpa using h3
        clear hcb hlx hx37 h1 h2 hrl h3
        go_enter Tryd.func94, Tryd.ntmps94
        go_wp2_with (go_at_call 118; refine (cR.out).mono ?_; rintro e w1 ⟨rfl, rfl⟩)
        go_ret
        exact ⟨rfl, rfl⟩
    · rw [codedB_short h2]
      have h2d : decide ((k : Int) + 2 < (l.length : Int)) = false := by simp; omega
      have h2e : (l.length : Int) ≤ (k : Int) + 2 := by omega
      clear hlx hx37 h1 h2 cR
      go_enter Tryd.func94, Tryd.ntmps94
      go_wp2_with fail
      go_ret
      exact ⟨rfl, rfl⟩
  · have e1 : ((x.toNat : Int) == 37) = false := by simp; omega
    have hcb : codedB (l.drop k) = false := by
      by_cases h2 : k + 2 < l.length
      · rw [codedB_long h2, hlx, show (x == 37) = false by simp; intro h; exact h1 (by rw [h]; rfl)]; rfl
      · exact codedB_short h2
    rw [hcb]
    clear hcb hlx h1 cR
    go_enter Tryd.func94, Tryd.ntmps94
    go_wp2_with fail
    go_ret
    exact ⟨rfl, rfl⟩
set_option maxHeartbeats 8000000 in
set_option maxRecDepth 100000 in
theorem refPercent_any (l : List UInt8) (nm : Bool) (w : World) (hz : l.length ≤ 100000000) :
    Calls Tryd.prog 68 #[.string ⟨l.toArray⟩, .bool nm] w fun e w' => e = .returned (.string ⟨(pctR nm (repairR l)).toArray⟩) ∧ Below w.heap.size w w' := by
  obtain ⟨i0, hi, hz0, hz1, hz2⟩ := info_parts info_u8R
  have cR := hide (fun w => refRepair_any l w (by omega))
  have htl := repairR_len l
  generalize repairR l = t at cR htl
  obtain ⟨P, hP⟩ : ∃ P, pctR nm t = P := ⟨_, rfl⟩
  rw [hP]
  have HP := hide hP
  clear hP
  go_enter Tryd.func68, Tryd.ntmps68
  go_wp2_with fail
  refine (cR.out _).mono ?_
  rintro e w1 ⟨rfl, hb1⟩
  go_wp2_with fail
  go_loopw [6, 7] (fun b i wr => ∃ (k : Nat) (ys : List UInt8), i = .int .i64 (k : Int) ∧ k ≤ t.length ∧ ys.length ≤ 3 * k ∧ wr.ownsRow w.heap.size 5 1 b ys.length (bv ys) ∧ Below w.heap.size w wr ∧ Hid (ys ++ pctR nm (t.drop k) = P)) (fun _ i _ => t.length - (intOf i).toNat)
  case atStart => exact ⟨0, [], rfl, Nat.zero_le _, Nat.le_refl _, World.ownsRow_nil _ _ _ _, hb1, HP⟩
  case round =>
    obtain ⟨k, ys, rfl, hk, hyk, hown, hb, hrel⟩ := hrel
    have hbz := hb.size
    by_cases hlt : k < t.length
    · have hlz : k < (⟨t.toArray⟩ : ByteArray).size := by rw [mk_size]; exact hlt
      obtain ⟨x, hx⟩ : ∃ x, (⟨t.toArray⟩ : ByteArray)[k]'hlz = x := ⟨_, rfl⟩
      have hlx : t[k] = x := hx
      have hdt := drop_cons t k hlt
      rw [hlx] at hdt
      have hki : (k : Int) < (t.length : Int) := by omega
      have hx256 : (x.toNat : Int) < 256 := by have := x.toNat_lt; omega
      have hx0 : (0 : Int) ≤ (x.toNat : Int) := by omega
      have cU := hide (fun w => refUnres_any x w)
      have cV := hide (fun w => refRes_any x w)
      have cK := hide (fun w => refCoded_any t k w (by omega) hlt)
      rw [hdt] at cK
      have cX := hide (fun w => refHex_any (x.toNat : Int) 2 w (by decide) (by decide))
      have hh2 := pHex2_len (x.toNat : Int)
      have HH := hide (show pHex (x.toNat : Int) 2 = pHex (x.toNat : Int) 2 from rfl)
      obtain ⟨h2, hh⟩ : ∃ h2, pHex (x.toNat : Int) 2 = h2 := ⟨_, rfl⟩
      rw [hh] at cX hh2
      have HH := hide hh
      have HZ := hide (show (⟨h2.toArray⟩ : ByteArray).size = h2.length from mk_size h2)
      have hkp : keepB nm x (t.drop (k + 1)) = (unresB x || (nm && (resB x || codedB (x :: t.drop (k + 1))))) := rfl
      generalize unresB x = b1 at cU hkp
      generalize resB x = b2 at cV hkp
      generalize codedB (x :: t.drop (k + 1)) = b3 at cK hkp
      have hh2 : h2.length ≤ 2 := by omega
      clear hlx hh
      cases b1
      · cases nm
        · have HK := hide (show keepB false x (t.drop (k + 1)) = false by rw [hkp]; rfl)
          clear hkp
          have HN := hide (show ((ys ++ [37]) ++ h2) ++ pctR false (t.drop (k + 1)) = P by rw [← hrel.out, hdt, pctR, HK.out, ← HH.out]; simp [pct2])
          clear hdt
          go_wp2_with (first | (go_at_call 92; refine (cU.out _).mono ?_; rintro e w2 ⟨rfl, rfl⟩) | (go_at_call 93; refine (cV.out _).mono ?_; rintro e w2 ⟨rfl, rfl⟩) | (go_at_call 94; refine (cK.out _).mono ?_; rintro e w2 ⟨rfl, rfl⟩) | (at_builtin; refine wpList_append_own _ rfl _ _ 49 rfl w.heap.size 5 i0 (.int .u8 0) 1 1 Tryd.underlying49 hi hz0 hz1 hz2 rfl (by decide) _ _ _ rfl (hown.alloc _) ⟨wr.heap.size, 0, none⟩ 1 1 [.int .u8 37] rfl rfl (by intro j u hj; match j, hj with | 0, hj => simp at hj; subst hj; simp [Addr.add]) (by intro u hu; simp at hu; subst hu; rfl) (by unfold maxLen; omega) (by omega) (by simp; omega) ?_; intro v' w3 hown' hgrow _))
          have hb' := grow_stepR hown hb hbz hgrow
          have hbz' := hb'.size
          have HO := hide (show w3.ownsRow w.heap.size 5 1 v' (ys ++ [37]).length (bv (ys ++ [37])) by simpa [bv] using hown')
          clear hown' hgrow hown hrel
          go_wp2_with (first | (go_at_call 95; refine (cX.out _).mono ?_; rintro e w4 ⟨rfl, rfl⟩) | (at_builtin; refine Lib.wpList_append_own_string _ rfl _ _ 49 9 rfl w.heap.size 5 i0 Tryd.underlying49 Tryd.underlying9 hi hz0 hz1 hz2 _ _ _ rfl HO.out ⟨h2.toArray⟩ rfl (by rw [HZ.out]; unfold maxLen; simp; omega) (by rw [HZ.out]; simp; omega) hbz' ?_; intro v2 w5 hown2 hgrow2 _))
          have hb2 := grow_stepS HO.out hb' hbz' hgrow2
          have HO2 := hide (show w5.ownsRow w.heap.size 5 1 v2 ((ys ++ [37]) ++ h2).length (bv ((ys ++ [37]) ++ h2)) by rw [bv_app, List.length_append, ← HZ.out]; exact hown2)
          clear hown2 hgrow2 HO
          go_wp2_with fail
          go_roundw
          case rel => exact ⟨k + 1, (ys ++ [37]) ++ h2, by go_num, by omega, by simp; omega, HO2, hb2, HN⟩
          case measure => simp [intOf]; omega
        · cases b2
          · cases b3
            · have HK := hide (show keepB true x (t.drop (k + 1)) = false by rw [hkp]; rfl)
              clear hkp
              have HN := hide (show ((ys ++ [37]) ++ h2) ++ pctR true (t.drop (k + 1)) = P by rw [← hrel.out, hdt, pctR, HK.out, ← HH.out]; simp [pct2])
              clear hdt
              go_wp2_with (first | (go_at_call 92; refine (cU.out _).mono ?_; rintro e w2 ⟨rfl, rfl⟩) | (go_at_call 93; refine (cV.out _).mono ?_; rintro e w2 ⟨rfl, rfl⟩) | (go_at_call 94; refine (cK.out _).mono ?_; rintro e w2 ⟨rfl, rfl⟩) | (at_builtin; refine wpList_append_own _ rfl _ _ 49 rfl w.heap.size 5 i0 (.int .u8 0) 1 1 Tryd.underlying49 hi hz0 hz1 hz2 rfl (by decide) _ _ _ rfl (hown.alloc _) ⟨wr.heap.size, 0, none⟩ 1 1 [.int .u8 37] rfl rfl (by intro j u hj; match j, hj with | 0, hj => simp at hj; subst hj; simp [Addr.add]) (by intro u hu; simp at hu; subst hu; rfl) (by unfold maxLen; omega) (by omega) (by simp; omega) ?_; intro v' w3 hown' hgrow _))
              have hb' := grow_stepR hown hb hbz hgrow
              have hbz' := hb'.size
              have HO := hide (show w3.ownsRow w.heap.size 5 1 v' (ys ++ [37]).length (bv (ys ++ [37])) by simpa [bv] using hown')
              clear hown' hgrow hown hrel
              go_wp2_with (first | (go_at_call 95; refine (cX.out _).mono ?_; rintro e w4 ⟨rfl, rfl⟩) | (at_builtin; refine Lib.wpList_append_own_string _ rfl _ _ 49 9 rfl w.heap.size 5 i0 Tryd.underlying49 Tryd.underlying9 hi hz0 hz1 hz2 _ _ _ rfl HO.out ⟨h2.toArray⟩ rfl (by rw [HZ.out]; unfold maxLen; simp; omega) (by rw [HZ.out]; simp; omega) hbz' ?_; intro v2 w5 hown2 hgrow2 _))
              have hb2 := grow_stepS HO.out hb' hbz' hgrow2
              have HO2 := hide (show w5.ownsRow w.heap.size 5 1 v2 ((ys ++ [37]) ++ h2).length (bv ((ys ++ [37]) ++ h2)) by rw [bv_app, List.length_append, ← HZ.out]; exact hown2)
              clear hown2 hgrow2 HO
              go_wp2_with fail
              go_roundw
              case rel => exact ⟨k + 1, (ys ++ [37]) ++ h2, by go_num, by omega, by simp; omega, HO2, hb2, HN⟩
              case measure => simp [intOf]; omega
            · have HK := hide (show keepB true x (t.drop (k + 1)) = true by rw [hkp]; rfl)
              clear hkp
              have HN := hide (show (ys ++ [x]) ++ pctR true (t.drop (k + 1)) = P by rw [← hrel.out, hdt, pctR, HK.out]; simp)
              clear hdt
              go_wp2_with (first | (go_at_call 92; refine (cU.out _).mono ?_; rintro e w2 ⟨rfl, rfl⟩) | (go_at_call 93; refine (cV.out _).mono ?_; rintro e w2 ⟨rfl, rfl⟩) | (go_at_call 94; refine (cK.out _).mono ?_; rintro e w2 ⟨rfl, rfl⟩) | (at_builtin; refine wpList_append_own _ rfl _ _ 49 rfl w.heap.size 5 i0 (.int .u8 0) 1 1 Tryd.underlying49 hi hz0 hz1 hz2 rfl (by decide) _ _ _ rfl (hown.alloc _) ⟨wr.heap.size, 0, none⟩ 1 1 [.int .u8 (x.toNat : Int)] rfl rfl (by intro j u hj; match j, hj with | 0, hj => simp at hj; subst hj; simp [Addr.add]) (by intro u hu; simp at hu; subst hu; rfl) (by unfold maxLen; omega) (by omega) (by simp; omega) ?_; intro v' w3 hown' hgrow _))
              have hb' := grow_stepR hown hb hbz hgrow
              have HO := hide (show w3.ownsRow w.heap.size 5 1 v' (ys ++ [x]).length (bv (ys ++ [x])) by simpa [bv] using hown')
              clear hown' hgrow hown hrel
              go_wp2_with fail
              go_roundw
              case rel => exact ⟨k + 1, ys ++ [x], by go_num, by omega, by simp; omega, HO, hb', HN⟩
              case measure => simp [intOf]; omega
          · have HK := hide (show keepB true x (t.drop (k + 1)) = true by rw [hkp]; rfl)
            clear hkp
            have HN := hide (show (ys ++ [x]) ++ pctR true (t.drop (k + 1)) = P by rw [← hrel.out, hdt, pctR, HK.out]; simp)
            clear hdt
            go_wp2_with (first | (go_at_call 92; refine (cU.out _).mono ?_; rintro e w2 ⟨rfl, rfl⟩) | (go_at_call 93; refine (cV.out _).mono ?_; rintro e w2 ⟨rfl, rfl⟩) | (go_at_call 94; refine (cK.out _).mono ?_; rintro e w2 ⟨rfl, rfl⟩) | (at_builtin; refine wpList_append_own _ rfl _ _ 49 rfl w.heap.size 5 i0 (.int .u8 0) 1 1 Tryd.underlying49 hi hz0 hz1 hz2 rfl (by decide) _ _ _ rfl (hown.alloc _) ⟨wr.heap.size, 0, none⟩ 1 1 [.int .u8 (x.toNat : Int)] rfl rfl (by intro j u hj; match j, hj with | 0, hj => simp at hj; subst hj; simp [Addr.add]) (by intro u hu; simp at hu; subst hu; rfl) (by unfold maxLen; omega) (by omega) (by simp; omega) ?_; intro v' w3 hown' hgrow _))
            have hb' := grow_stepR hown hb hbz hgrow
            have HO := hide (show w3.ownsRow w.heap.size 5 1 v' (ys ++ [x]).length (bv (ys ++ [x])) by simpa [bv] using hown')
            clear hown' hgrow hown hrel
            go_wp2_with fail
            go_roundw
            case rel => exact ⟨k + 1, ys ++ [x], by go_num, by omega, by simp; omega, HO, hb', HN⟩
            case measure => simp [intOf]; omega
      · have HK := hide (show keepB nm x (t.drop (k + 1)) = true by rw [hkp]; rfl)
        clear hkp
        have HN := hide (show (ys ++ [x]) ++ pctR nm (t.drop (k + 1)) = P by rw [← hrel.out, hdt, pctR, HK.out]; simp)
        clear hdt
        go_wp2_with (first | (go_at_call 92; refine (cU.out _).mono ?_; rintro e w2 ⟨rfl, rfl⟩) | (go_at_call 93; refine (cV.out _).mono ?_; rintro e w2 ⟨rfl, rfl⟩) | (go_at_call 94; refine (cK.out _).mono ?_; rintro e w2 ⟨rfl, rfl⟩) | (at_builtin; refine wpList_append_own _ rfl _ _ 49 rfl w.heap.size 5 i0 (.int .u8 0) 1 1 Tryd.underlying49 hi hz0 hz1 hz2 rfl (by decide) _ _ _ rfl (hown.alloc _) ⟨wr.heap.size, 0, none⟩ 1 1 [.int .u8 (x.toNat : Int)] rfl rfl (by intro j u hj; match j, hj with | 0, hj => simp at hj; subst hj; simp [Addr.add]) (by intro u hu; simp at hu; subst hu; rfl) (by unfold maxLen; omega) (by omega) (by simp; omega) ?_; intro v' w3 hown' hgrow _))
        have hb' := grow_stepR hown hb hbz hgrow
        have HO := hide (show w3.ownsRow w.heap.size 5 1 v' (ys ++ [x]).length (bv (ys ++ [x])) by simpa [bv] using hown')
        clear hown' hgrow hown hrel
        go_wp2_with fail
        go_roundw
        case rel => exact ⟨k + 1, ys ++ [x], by go_num, by omega, by simp; omega, HO, hb', HN⟩
        case measure => simp [intOf]; omega
    · have hk2 : k = t.length := by omega
      have hR : ys = P := by have := hrel.out; rw [hk2, List.drop_length] at this; simpa [pctR] using this
      subst hR
      have hcv := conv_ownR hown
      clear hk2 hown hrel HP
      go_wp2_with fail
      go_ret
      exact ⟨rfl, hb⟩
end Go.Proofs.YtbcbbeenkndgcaaDoor
