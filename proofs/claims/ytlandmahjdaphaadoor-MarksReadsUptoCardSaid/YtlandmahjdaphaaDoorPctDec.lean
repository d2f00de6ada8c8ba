/-
  percent: coded, Decode.
-/
import Derived.Test.YtlandmahjdaphaaDoorUnpSpec
import Derived.Test.YtlandmahjdaphaaDoorUnhexP
import Derived.Test.YtlandmahjdaphaaDoorBuildT
import Derived.Lib.TrimByte
namespace Go.Proofs.YtlandmahjdaphaaDoor
open Go.RowKit
set_option linter.unusedVariables false
set_option linter.unusedSimpArgs false

theorem drop_consD (l : List UInt8) (k : Nat) (h : k < l.length) : l.drop k = l[k] :: l.drop (k + 1) := List.drop_eq_getElem_cons h
theorem unhexL_any (l : List UInt8) (w : World) (hl : l.length ≤ 1000000000) :
    Calls Tryd.prog 50 #[.string ⟨l.toArray⟩] w fun e w' => e = .returned (.tuple #[.int .i64 (pUnhex l).1, .int .i64 (pUnhex l).2]) ∧ Below w.heap.size w w' :=
  unhex_any ⟨l.toArray⟩ w (by rw [mk_size]; omega)
theorem two_of (l : List UInt8) (k : Nat) (h : k + 2 < l.length) : ∃ a b, (l.drop (k + 1)).take 2 = [a, b] ∧ ∀ c, codedB (c :: l.drop (k + 1)) = (c == 37 && (hexB a && hexB b)) ∧ hexOf (l.drop (k + 1)) = hexOf [a, b] := by
  refine ⟨l[k + 1], l[k + 1 + 1], ?_, fun c => ⟨?_, ?_⟩⟩
  all_goals rw [drop_consD l (k + 1) (by omega), drop_consD l (k + 1 + 1) (by omega)]
  all_goals rfl
theorem cut_two (l : List UInt8) (k : Nat) (h : k + 3 ≤ l.length) : (⟨l.toArray⟩ : ByteArray).extract (k + 1) (k + 3) = ⟨((l.drop (k + 1)).take 2).toArray⟩ := by
  rw [Lib.extract_mk]
  rw [show k + 3 - (k + 1) = 2 by omega]
set_option maxHeartbeats 1000000 in
set_option maxRecDepth 100000 in
theorem coded_any (l : List UInt8) (k : Nat) (w : World) (hz : l.length ≤ 1000000000) (hk : k < l.length) :
    Calls Tryd.prog 49 #[.string ⟨l.toArray⟩, .int .i64 (k : Int)] w fun e w' => e = .returned (.bool (codedB (l.drop k))) ∧ Below w.heap.size w w' := by
  have hlz : k < (⟨l.toArray⟩ : ByteArray).size := by rw [mk_size]; exact hk
  obtain ⟨x, hx⟩ : ∃ x, (⟨l.toArray⟩ : ByteArray)[k]'hlz = x := ⟨_, rfl⟩
  have hlx : l[k] = x := hx
  have hki : (k : Int) < (l.length : Int) := by omega
  rw [drop_consD l k hk, hlx]
  by_cases h1 : x.toNat = 37
  · have e1 : ((x.toNat : Int) != 37) = false := by simp; omega
    have hx37 : x = 37 := UInt8.toNat_inj.1 h1
    by_cases h2 : k + 2 < l.length
    · obtain ⟨a, b, t1, t2⟩ := two_of l k h2
      rw [(t2 x).1, hx37, show ((37 : UInt8) == 37) = true by decide, Bool.true_and]
      have cU := unhexL_any [a, b] w (by simp)
      rw [pUnhex2] at cU
      rw [← t1, ← cut_two l k (by omega)] at cU
      have g1 : decide ((l.length : Int) - (k : Int) < 3) = false := by simp; omega
      have g2 : (3 : Int) ≤ (l.length : Int) - (k : Int) := by omega
      have g3 : (k : Int) + 3 ≤ (l.length : Int) := by omega
      rcases Bool.eq_false_or_eq_true (hexB a && hexB b) with hc | hc
      · rw [hc] at cU ⊢
        have cU := hide cU
        clear hlx hx37 h1 h2 t1 t2 hc
        go_enter Tryd.func49, Tryd.ntmps49
        go_wp2_with (go_at_call 50; refine (cU.out).mono ?_; rintro e w1 ⟨rfl, hb1⟩)
        go_ret
        exact ⟨rfl, hb1⟩
      · rw [hc] at cU ⊢
        have cU := hide cU
        clear hlx hx37 h1 h2 t1 t2 hc
        go_enter Tryd.func49, Tryd.ntmps49
        go_wp2_with (go_at_call 50; refine (cU.out).mono ?_; rintro e w1 ⟨rfl, hb1⟩)
        go_ret
        exact ⟨rfl, hb1⟩
    · have hcb : codedB (x :: l.drop (k + 1)) = false := by
        have hl : (l.drop (k + 1)).length ≤ 1 := by rw [List.length_drop]; omega
        match hd : l.drop (k + 1), hl with
        | [], _ => rfl
        | [a], _ => rfl
      rw [hcb]
      have g1 : decide ((l.length : Int) - (k : Int) < 3) = true := by simp; omega
      have g2 : (l.length : Int) - (k : Int) < 3 := by omega
      clear hlx hx37 h1 h2 hcb
      go_enter Tryd.func49, Tryd.ntmps49
      go_wp2_with fail
      go_ret
      exact ⟨rfl, Below.refl _ _⟩
  · have e1 : ((x.toNat : Int) != 37) = true := by simp; omega
    have hcb : codedB (x :: l.drop (k + 1)) = false := by
      match l.drop (k + 1) with
      | [] => rfl
      | [a] => rfl
      | a :: b :: r =>
        show (x == 37 && _) = false
        rw [show (x == 37) = false by simp; intro h; exact h1 (by rw [h]; rfl)]
        rfl
    rw [hcb]
    clear hlx h1 hcb
    go_enter Tryd.func49, Tryd.ntmps49
    go_wp2_with fail
    go_ret
    exact ⟨rfl, Below.refl _ _⟩
set_option maxHeartbeats 4000000 in
set_option maxRecDepth 100000 in
theorem pctDecode_any (l : List UInt8) (w : World) (hz : l.length ≤ 1000000000) :
    Calls Tryd.prog 25 #[.string ⟨l.toArray⟩] w fun e w' => e = .returned (.tuple #[.string ⟨(if (unp l).2.2 then (unp l).1 else []).toArray⟩, .int .i64 (if (unp l).2.2 then (l.length : Int) else ((unp l).2.1 : Int)), .int .i64 (if (unp l).2.2 then 0 else 33)]) ∧ Below w.heap.size w w' := by
  have hst := hide (UnpRel.start l)
  obtain ⟨ok, hok⟩ : ∃ b, (unp l).2.2 = b := ⟨_, rfl⟩
  have hI0 := isBT_new 76 w w.heap.size (Nat.le_refl _)
  have hB0 := (Below.refl w.heap.size w).alloc (Nat.le_refl _) (.cells #[.pointer none, .slice none 0 0] 76)
  rw [hok]
  have HOK := hide hok
  clear hok
  go_enter Tryd.func25, Tryd.ntmps25
  go_wp2_with fail
  generalize hW : w.alloc (.cells #[.pointer none, .slice none 0 0] 76) = W at hI0 hB0 ⊢
  clear hW
  go_loopw [6] (fun i wr => ∃ (k : Nat) (ys : List UInt8), i = .int .i64 (k : Int) ∧ k ≤ l.length ∧ ys.length ≤ k ∧ IsBT 76 w.heap.size w.heap.size ys wr ∧ Below w.heap.size w wr ∧ Hid (UnpRel l k ys)) (fun i _ => l.length - (intOf i).toNat)
  case atStart => exact ⟨0, [], rfl, Nat.zero_le _, Nat.le_refl _, hI0, hB0, hst⟩
  case round =>
    obtain ⟨k, ys, rfl, hk, hyk, hI, hb, hrel⟩ := hrel
    have hbz := hb.size
    by_cases hlt : k < l.length
    · have hlz : k < (⟨l.toArray⟩ : ByteArray).size := by rw [mk_size]; exact hlt
      obtain ⟨x, hx⟩ : ∃ x, (⟨l.toArray⟩ : ByteArray)[k]'hlz = x := ⟨_, rfl⟩
      have hlx : l[k] = x := hx
      have hki : (k : Int) < (l.length : Int) := by omega
      rcases Bool.eq_false_or_eq_true ((x.toNat : Int) != 37) with h1 | h1
      · have hn : (x != 37) = true := by
          simp at h1 ⊢
          intro h; apply h1; rw [h]; rfl
        have HN := hide (hrel.out.keep hlt hlx hn)
        have HI := hide hI
        clear hn hlx hI
        go_wp2_with fail
        refine (btByte btBuilder w.heap.size w.heap.size ys x _ HI.out (by omega) hbz).mono ?_
        rintro e w1 ⟨rfl, hI1, hb1, _⟩
        have HI1 := hide hI1
        have hb' := hb.trans hb1
        clear hI1 hb1 HI hb
        go_wp2_with fail
        go_roundw
        case rel => exact ⟨k + 1, ys ++ [x], by go_num, by omega, by simp; omega, HI1.out, hb', HN⟩
        case measure => simp [intOf]; omega
      · have hn : (x != 37) = false := by
          simp at h1 ⊢
          apply UInt8.toNat_inj.1
          show x.toNat = 37
          omega
        have cK := hide (fun w => coded_any l k w hz hlt)
        rw [drop_consD l k hlt, hlx] at cK
        rcases Bool.eq_false_or_eq_true (codedB (x :: l.drop (k + 1))) with hc | hc
        · rw [hc] at cK
          have h2r := codedB_len hc
          rw [List.length_drop] at h2r
          obtain ⟨a, b, t1, t2⟩ := two_of l k (by omega)
          have hab : (hexB a && hexB b) = true := by
            have := (t2 x).1
            rw [hc] at this
            have := this.symm
            simp only [Bool.and_eq_true] at this ⊢
            exact this.2
          have hcode := hrel.out.code hlt hlx hn hc
          have cU := fun w => unhexL_any [a, b] w (by simp)
          rw [pUnhex2, hab] at cU
          rw [← (t2 x).2] at cU
          rw [← t1, ← cut_two l k (by omega)] at cU
          have hlt2 := hexOf_lt (l.drop (k + 1))
          generalize hexOf (l.drop (k + 1)) = n at cU hcode hlt2
          have cU := hide cU
          have hn256 : (UInt8.ofNat n).toNat = n := by rw [UInt8.toNat_ofNat']; omega
          have HN := hide hcode
          have HI := hide hI
          have g3 : (k : Int) + 3 ≤ (l.length : Int) := by omega
          have gn0 : (0 : Int) ≤ (n : Int) := by omega
          have gn1 : (n : Int) < 256 := by omega
          clear hn hlx hI hc t1 t2 hab hcode h2r
          go_wp2_with (first | (go_at_call 49; refine (cK.out _).mono ?_; rintro e w1 ⟨rfl, hb1⟩) | (go_at_call 50; refine (cU.out _).mono ?_; rintro e w2 ⟨rfl, hb2⟩))
          have hbs := below_step hb1 hb2
          have hI2 := isBT_keep HI.out hbs
          have hb3 := hb.trans (hbs.mono hbz)
          have cW := btByte btBuilder w.heap.size w.heap.size ys (UInt8.ofNat n) _ hI2 (by omega) hb3.size
          rw [hn256] at cW
          clear hbs HI hb hb1 hb2 hI2
          refine (cW).mono ?_
          rintro e w4 ⟨rfl, hI1, hb1, _⟩
          have HI1 := hide hI1
          have hb' := hb3.trans hb1
          clear hI1 hb1 hb3 cW
          go_wp2_with fail
          go_roundw
          case rel => exact ⟨k + 3, ys ++ [UInt8.ofNat n], by go_num, by omega, by simp; omega, HI1.out, hb', HN⟩
          case measure => simp [intOf]; omega
        · rw [hc] at cK
          obtain ⟨hb1, hb2⟩ := hrel.out.bad hlt hlx hn hc
          have HF := hide hb1
          have HOK2 : ok = false := by rw [← HOK.out]; exact hb2
          subst HOK2
          clear hn hlx hc hb1 hb2
          go_wp2_with (go_at_call 49; refine (cK.out _).mono ?_; rintro e w1 ⟨rfl, hb1⟩)
          go_ret3
          exact ⟨by rw [HF.out]; rfl, hb.trans (hb1.mono hbz)⟩
    · have hk2 : k = l.length := by omega
      obtain ⟨h1, h2⟩ := hrel.out.end_ hk2
      have HF := hide h1
      have HOK2 : ok = true := by rw [← HOK.out]; exact h2
      subst HOK2
      have cG := hide (btString (T := 76) w.heap.size w.heap.size ys wr hI hbz)
      clear h1 h2 hk2 hI hrel
      go_wp2_with (go_at_call 51; refine (cG.out).mono ?_; rintro e w1 ⟨rfl, hb1⟩)
      go_ret3
      exact ⟨by rw [HF.out]; rfl, hb.trans hb1⟩
end Go.Proofs.YtlandmahjdaphaaDoor
