/-
  The page's Check and Plain of any value.
-/
import Derived.Test.YtdnmgpidfjkiaaaDoorVCheck3
import Derived.Test.YtdnmgpidfjkiaaaDoorVOwn
namespace Go.Proofs.YtdnmgpidfjkiaaaDoor
open Go.RowKit
set_option linter.unusedVariables false
set_option linter.unusedSimpArgs false

theorem check_deep : ∀ (n : Nat) (U : World → Nat → Prop) (hU : ∀ w w' b, Below w.heap.size w w' → b < w.heap.size → U w b → U w' b) (v : Value) (d : VT n) (deep : Nat) (w : World), IsV U w n v d → SmallV n d → deep ≤ 16 →
    Calls Tryd.prog 41 #[v, .int .i64 (deep : Int)] w fun e w' => e = .returned (.int .i64 (checkV n deep d)) ∧ Below w.heap.size w w' := by
  intro n
  induction n with
  | zero => intro U _ v d deep w h; exact h.elim
  | succ n ih =>
    intro U hU v d deep w h hsm hd
    obtain ⟨k, i, s, l, ks⟩ := d
    obtain ⟨a, c, b, e, rfl, hS, hL⟩ := h.parts
    obtain ⟨_, hz2, hz3, hz4, hz5⟩ := hsm
    have hz5 : ∀ x ∈ l, SmallV n x := hz5
    have hi : ∀ (v : Value) (x : VT n) (w : World), x ∈ l → IsV U w n v x → deep + 1 ≤ 16 → Calls Tryd.prog 41 #[v, .int .i64 ((deep : Int) + 1)] w fun e w' => e = .returned (.int .i64 (checkV n (deep + 1) x)) ∧ Below w.heap.size w w' :=
      fun v x w hx hv hd1 => ih U hU v x (deep + 1) w hv (hz5 x hx) hd1
    rcases Int.lt_or_le k 0 with h0 | h0
    · exact check_kX U hU k h0 i s l ks a b c e deep w hd hS hL hz2 hz3 hz4 hi
    rcases Int.lt_or_le 11 k with h1 | h1
    · exact check_kY U hU k h1 i s l ks a b c e deep w hd hS hL hz2 hz3 hz4 hi
    rcases Int.lt_or_le k 3 with h2 | h2
    · exact check_kD U hU k h0 (by omega) i s l ks a b c e deep w hd hS hL hz2 hz3 hz4 hi
    rcases Int.lt_or_le 6 k with h3 | h3
    · exact check_kT U hU k h3 h1 i s l ks a b c e deep w hd hS hL hz2 hz3 hz4 hi
    have h4 : k = 3 ∨ k = 4 ∨ k = 5 ∨ k = 6 := by omega
    rcases h4 with rfl | rfl | rfl | rfl
    · exact check_k3 U hU i s l ks a b c e deep w hd hS hL hz2 hz3 hz4 hi
    · exact check_k4 U hU i s l ks a b c e deep w hd hS hL hz2 hz3 hz4 hi
    · exact check_k5 U hU i s l ks a b c e deep w hd hS hL hz2 hz3 hz4 hi
    · exact check_k6 U hU i s l ks a b c e deep w hd hS hL hz2 hz3 hz4 hi
theorem refCheck_any (n : Nat) (U : World → Nat → Prop) (hU : ∀ w w' b, Below w.heap.size w w' → b < w.heap.size → U w b → U w' b) (v : Value) (d : VT n) (w : World) (hv : IsV U w n v d) (hs : SmallV n d) :
    Calls Tryd.prog 18 #[v] w fun e w' => e = .returned (.int .i64 (checkV n 0 d)) ∧ Below w.heap.size w w' := by
  obtain ⟨e, rfl⟩ := hv.shape
  have cC := hide (fun (Z : World) (hb : Below w.heap.size w Z) => check_deep n U hU e.val d 0 Z (IsV.on (Stays.of_below hb fun b h => hU _ _ b hb h) n _ _ hv) hs (by omega))
  obtain ⟨k, i, s, a, m, c, b, p, q⟩ := e
  clear hv
  go_enter Tryd.func18, Tryd.ntmps18
  go_wp2_with fail
  have hb0 := (Below.refl w.heap.size w).alloc (Nat.le_refl _) (.cells #[.int .i64 k, .int .i64 i, .string s, .slice a m c, .slice b p q] 26)
  refine (cC.out _ hb0).mono ?_
  rintro e w1 ⟨rfl, hb1⟩
  go_wp2_with fail
  go_ret
  exact ⟨rfl, hb0.trans (hb1.mono hb0.size)⟩
set_option maxHeartbeats 4000000 in
set_option maxRecDepth 100000 in
theorem refPlain_any : ∀ (n : Nat) (U : World → Nat → Prop) (hU : ∀ w w' b, Below w.heap.size w w' → b < w.heap.size → U w b → U w' b) (v : Value) (d : VT n) (w : World), IsV U w n v d → SmallV n d →
    Calls Tryd.prog 15 #[v] w fun e w' => e = .returned (.bool (plainV n d)) ∧ Below w.heap.size w w' := by
  intro n
  induction n with
  | zero => intro U _ v d w h; exact h.elim
  | succ n ih =>
    intro U hU v d w h hsm
    obtain ⟨k, i, s, l, ks⟩ := d
    obtain ⟨a, c, b, e, rfl, hS, hL⟩ := h.parts
    obtain ⟨_, hz2, hz3, hz4, hz5⟩ := hsm
    have hz5 : ∀ x ∈ l, SmallV n x := hz5
    have hz2 : l.length * 80 ≤ 140737488351232 := hz2
    simp only at hL
    rw [plainV_mk]
    obtain ⟨R, hR⟩ : ∃ R, (l.all (plainV n) && decide (k < 7)) = R := ⟨_, rfl⟩
    obtain ⟨m, hm⟩ : ∃ m, l.length = m := ⟨_, rfl⟩
    obtain ⟨X, hX⟩ : ∃ x : ByteArray, (⟨s.toArray⟩ : ByteArray) = x := ⟨_, rfl⟩
    rw [hR]
    simp only
    rw [hm] at hz2 ⊢
    rw [hX]
    have hB0 : ∀ o1, Below w.heap.size w (w.alloc o1) := fun o1 => (Below.refl _ _).alloc (Nat.le_refl _) _
    have K1 := Blk.new w 26 #[.int .i64 k, .int .i64 i, .string X, .slice a m c, .slice b ks.length e]
    have hBW := hB0 (.cells #[.int .i64 k, .int .i64 i, .string X, .slice a m c, .slice b ks.length e] 26)
    have HM := hide hm; have HR := hide hR; have HL := hide hL; have HZ := hide hz5
    clear hm hR hL h hS hX hB0 hz5 hz4
    go_enter Tryd.func15, Tryd.ntmps15
    go_wp2_with fail
    generalize w.alloc (.cells #[.int .i64 k, .int .i64 i, .string X, .slice a m c, .slice b ks.length e] 26) = W at K1 hBW ⊢
    have HL := hide (HL.out.on (R' := IsV U W n) (Stays.of_below hBW fun b h => hU _ _ b hBW h) (IsV.on (Stays.of_below hBW fun b h => hU _ _ b hBW h) n))
    have HBW := hide hBW
    have p3 := K1.cell 3; have p0 := K1.cell 0
    simp at p3 p0
    have z1 := K1.lt
    clear hBW K1
    go_loopw [3] (fun i wr => ∃ j : Nat, i = .int .i64 (j : Int) ∧ j ≤ m ∧ Below W.heap.size W wr ∧ Hid (∀ r x, r < j → l[r]? = some x → plainV n x = true)) (fun i _ => m - (intOf i).toNat)
    case atStart => exact ⟨0, rfl, Nat.zero_le _, (by first | exact Below.refl _ _ | exact below_drewN (Below.refl _ _) _), fun r x h => absurd h (Nat.not_lt_zero _)⟩
    case round =>
      obtain ⟨j, rfl, hj, hb, hall⟩ := hrel
      have p3r := (hb.cell (p := ⟨w.heap.size, 3, none⟩) z1).trans p3
      have p0r := (hb.cell (p := ⟨w.heap.size, 0, none⟩) z1).trans p0
      have zr1 : w.heap.size < wr.heap.size := Nat.lt_of_lt_of_le z1 hb.size
      by_cases hil : j < m
      · obtain ⟨x, hx⟩ : ∃ x, l[j]? = some x := ⟨_, List.getElem?_eq_getElem (by have := HM.out; omega)⟩
        have hstay : Stays U U W wr := Stays.of_below hb fun b h => hU _ _ b hb h
        obtain ⟨g, o, rfl, hg, _, ka, ia, sa, aa, na, ca, ba, ma, da, hF, hV⟩ := (HL.out.on hstay (IsV.on hstay n)) j x hx
        obtain ⟨f0, f1, f2, f3, f4⟩ := hF
        have hgr : g < wr.heap.size := hg
        have hji : (j : Int) < (m : Int) := by omega
        have cS := hide (ih U hU _ x wr hV (HZ.out x (List.mem_of_getElem? hx)))
        obtain ⟨q, hq⟩ : ∃ q, plainV n x = q := ⟨_, rfl⟩
        rw [hq] at cS
        have HX := hide hx; have HQ := hide hq
        clear hV hx hstay hq
        cases q
        · have hF := hide (show R = false by
            rw [← HR.out]
            have : l.all (plainV n) = false := by rw [List.all_eq_false]; exact ⟨x, List.mem_of_getElem? HX.out, by simp [HQ.out]⟩
            rw [this, Bool.false_and])
          clear hall
          go_wp2_with fail
          refine (cS.out).mono ?_
          rintro e w1 ⟨rfl, hb1⟩
          go_wp2_with fail
          go_ret
          exact ⟨ret_bool hF.out.symm, HBW.out.trans ((hb.trans (hb1.mono hb.size)).mono HBW.out.size)⟩
        · have hnx : Hid (∀ r x, r < j + 1 → l[r]? = some x → plainV n x = true) := by
            intro r y hr hy
            rcases Nat.lt_or_ge r j with h | h
            · exact hall.out r y h hy
            · obtain rfl : r = j := by omega
              have := HX.out
              rw [hy] at this
              injection this with this
              rw [this]; exact HQ.out
          clear hall
          go_wp2_with fail
          refine (cS.out).mono ?_
          rintro e w1 ⟨rfl, hb1⟩
          go_wp2_with fail
          go_roundw
          case rel => exact ⟨j + 1, by go_num, by omega, hb.trans (hb1.mono hb.size), hnx⟩
          case measure => simp [intOf]; omega
      · obtain rfl : j = m := by omega
        have hF := hide (show decide (k < 7) = R by
          rw [← HR.out]
          have : l.all (plainV n) = true := by
            rw [List.all_eq_true]
            intro x hx
            obtain ⟨r, hr, e⟩ := List.getElem_of_mem hx
            exact hall.out r x (by have := HM.out; omega) (by rw [List.getElem?_eq_getElem hr, e])
          rw [this, Bool.true_and])
        have hif : decide ((j : Int) < (j : Int)) = false := by simp
        clear hall
        go_wp2_with fail
        go_ret
        exact ⟨ret_bool hF.out, HBW.out.trans (hb.mono HBW.out.size)⟩
end Go.Proofs.YtdnmgpidfjkiaaaDoor
