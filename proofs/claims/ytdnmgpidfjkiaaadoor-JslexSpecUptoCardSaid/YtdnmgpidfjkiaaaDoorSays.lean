/-
  muslinlaw38.says; jslex.Text of any piece.
-/
import Derived.Test.YtdnmgpidfjkiaaaDoorVOwn
import Derived.Test.YtdnmgpidfjkiaaaDoorM9
import Derived.Test.YtdnmgpidfjkiaaaDoorM5
import Derived.Test.YtdnmgpidfjkiaaaDoorJsDec
import Derived.Test.YtdnmgpidfjkiaaaDoorLexG
import Derived.Test.YtdnmgpidfjkiaaaDoorLexW
namespace Go.Proofs.YtdnmgpidfjkiaaaDoor
open Go.RowKit
set_option linter.unusedVariables false
set_option linter.unusedSimpArgs false

theorem toL_eqS (s t : List UInt8) : ((⟨s.toArray⟩ : ByteArray).toList == (⟨t.toArray⟩ : ByteArray).toList) = (s == t) := by
  rw [ByteArray.toList_eq, ByteArray.toList_eq]
theorem says_off {n : Nat} {k i : Int} {s : List UInt8} {l : List (VT n)} {ks : List (List UInt8)} {t : List UInt8} (h1 : ¬ (k = 4 ∧ repairR s = t)) (h2 : ∀ r x, r < ks.length → ks[r]? = some x → x ≠ t) (h3 : ∀ r x, r < l.length → l[r]? = some x → saysV n x t = false) :
    saysV (n + 1) (⟨k, i, s, l, ks⟩ : VN (VT n)) t = false := by
  rw [saysV_mk]
  have e1 : (decide (k = 4) && repairR s == t) = false := by
    rcases Bool.eq_false_or_eq_true (decide (k = 4) && repairR s == t) with h | h
    · rw [Bool.and_eq_true, decide_eq_true_eq, beq_iff_eq] at h; exact absurd h h1
    · exact h
  have e2 : (ks.any (· == t)) = false := by
    rw [List.any_eq_false]
    intro x hx
    obtain ⟨r, hr, e⟩ := List.getElem_of_mem hx
    have := h2 r x hr (by rw [List.getElem?_eq_getElem hr, e])
    simpa using this
  have e3 : (l.any fun x => saysV n x t) = false := by
    rw [List.any_eq_false]
    intro x hx
    obtain ⟨r, hr, e⟩ := List.getElem_of_mem hx
    have := h3 r x hr (by rw [List.getElem?_eq_getElem hr, e])
    simp [this]
  rw [e1, e2, e3]; rfl
theorem says_text {n : Nat} {k i : Int} {s : List UInt8} {l : List (VT n)} {ks : List (List UInt8)} {t : List UInt8} (h1 : k = 4) (h2 : repairR s = t) :
    saysV (n + 1) (⟨k, i, s, l, ks⟩ : VN (VT n)) t = true := by
  rw [saysV_mk, h1, h2]; simp
theorem says_key {n : Nat} {k i : Int} {s : List UInt8} {l : List (VT n)} {ks : List (List UInt8)} {t : List UInt8} {j : Nat} (h : ks[j]? = some t) :
    saysV (n + 1) (⟨k, i, s, l, ks⟩ : VN (VT n)) t = true := by
  rw [saysV_mk]
  have : (ks.any (· == t)) = true := List.any_eq_true.2 ⟨t, List.mem_of_getElem? h, by simp⟩
  rw [this]; simp
theorem says_part {n : Nat} {k i : Int} {s : List UInt8} {l : List (VT n)} {ks : List (List UInt8)} {t : List UInt8} {j : Nat} {x : VT n} (h : l[j]? = some x) (hx : saysV n x t = true) :
    saysV (n + 1) (⟨k, i, s, l, ks⟩ : VN (VT n)) t = true := by
  rw [saysV_mk]
  have : (l.any fun x => saysV n x t) = true := List.any_eq_true.2 ⟨x, List.mem_of_getElem? h, hx⟩
  rw [this]; simp
theorem mass_parts {n : Nat} {k i : Int} {s : List UInt8} {l : List (VT n)} {ks : List (List UInt8)} {M : Nat} (h : massV (n + 1) (⟨k, i, s, l, ks⟩ : VN (VT n)) ≤ M) : s.length ≤ M ∧ ∀ x ∈ l, massV n x ≤ M := by
  exact ⟨Nat.le_trans massP_text h, fun x hx => Nat.le_trans (massP_list x hx) h⟩
set_option maxHeartbeats 400000 in
set_option maxRecDepth 100000 in
theorem text_any (q : UInt8) (s : List UInt8) (p : Nat) (w : World) (hz : s.length ≤ 100000000) :
    Calls Tryd.prog 28 #[.agg #[.int .i64 2, .string ⟨(q :: (escR s ++ [q])).toArray⟩, .int .i64 (p : Int)]] w fun e w' => e = .returned (.tuple #[.string ⟨(repairR s).toArray⟩, .bool true]) ∧ Below w.heap.size w w' := by
  have hXe : (⟨(q :: (escR s ++ [q])).toArray⟩ : ByteArray).extract 1 ((escR s).length + 1) = ⟨(escR s).toArray⟩ := by
    rw [ext_eq]
    congr 2
    rw [List.take_succ_cons, List.take_left]
    rfl
  have hxs : (⟨(q :: (escR s ++ [q])).toArray⟩ : ByteArray).size = (escR s).length + 2 := by rw [mk_size]; simp
  have hel := escR_len s
  have cD := fun w => jsDecode_ok s w (by omega)
  obtain ⟨x, hx⟩ : ∃ x, (⟨(q :: (escR s ++ [q])).toArray⟩ : ByteArray) = x := ⟨_, rfl⟩
  rw [hx] at hXe hxs ⊢
  obtain ⟨y, hy⟩ : ∃ y, (⟨(escR s).toArray⟩ : ByteArray) = y := ⟨_, rfl⟩
  rw [hy] at hXe cD
  have hXe := hide hXe
  have cD := hide cD
  generalize (escR s).length = m at *
  have hm1 : ((m : Int) + 2 - 1) = (((m + 1 : Nat)) : Int) := by omega
  have hlt2 : ¬ ((m : Int) + 2 < 2) := by omega
  clear hx hy
  go_enter Tryd.func28, Tryd.ntmps28
  go_wp2_with fail
  (try rw [hXe.out])
  refine (cD.out _).mono ?_
  rintro e w1 ⟨rfl, hb1⟩
  go_wp2_with fail
  go_ret2
  exact ⟨rfl, ((Below.refl _ _).alloc (Nat.le_refl _) _).trans (hb1.mono (by simp))⟩
set_option maxHeartbeats 400000 in
theorem text_other (k : Int) (t : ByteArray) (p : Int) (w : World) (hk : k ≠ 2) :
    Calls Tryd.prog 28 #[.agg #[.int .i64 k, .string t, .int .i64 p]] w fun e w' => e = .returned (.tuple #[.string ⟨#[]⟩, .bool false]) ∧ Below w.heap.size w w' := by
  have hkq : (k != 2) = true := by simpa using hk
  clear hk
  go_enter Tryd.func28, Tryd.ntmps28
  go_wp2_with fail
  go_ret2
  exact ⟨rfl, (Below.refl _ _).alloc (Nat.le_refl _) _⟩
set_option maxHeartbeats 4000000 in
set_option maxRecDepth 100000 in
theorem says_any : ∀ (n : Nat) (v : Value) (d : VT n) (t : List UInt8) (w : World), IsV anyB w n v d → SmallV n d → massV n d ≤ 1000000000 →
    Calls Tryd.prog 30 #[v, .string ⟨t.toArray⟩] w fun e w' => e = .returned (.bool (saysV n d t)) ∧ Below w.heap.size w w' := by
  intro n
  induction n with
  | zero => intro v d t w h; exact h.elim
  | succ n ih =>
    intro v d t w h hsm hM
    obtain ⟨k, i, s, l, ks⟩ := d
    obtain ⟨a, c, b, e, rfl, hS, hL⟩ := h.parts
    obtain ⟨_, hz2, hz3, hz4, hz5⟩ := hsm
    have hz5 : ∀ x ∈ l, SmallV n x := hz5
    have hz2 : l.length * 80 ≤ 140737488351232 := hz2
    have hz3 : ks.length * 16 ≤ 140737488351232 := hz3
    obtain ⟨hms, hml⟩ := mass_parts hM
    simp only at hS hL
    have hoff := @says_off n k i s l ks t
    have htx := @says_text n k i s l ks t
    have hky := @says_key n k i s l ks t
    have hpa := @says_part n k i s l ks t
    obtain ⟨R, hR⟩ : ∃ R, saysV (n + 1) (⟨k, i, s, l, ks⟩ : VN (VT n)) t = R := ⟨_, rfl⟩
    rw [hR] at hoff htx hky hpa ⊢
    have cR := hide (fun w => refRepair_any s w hms)
    obtain ⟨Y, hY⟩ : ∃ Y : ByteArray, (⟨(repairR s).toArray⟩ : ByteArray) = Y := ⟨_, rfl⟩
    obtain ⟨T, hT⟩ : ∃ T : ByteArray, (⟨t.toArray⟩ : ByteArray) = T := ⟨_, rfl⟩
    have hYT := toL_eqS (repairR s) t
    have hXT := fun x => toL_eqS x t
    rw [hY, hT] at hYT
    rw [hT] at hXT
    rw [hY] at cR
    rw [hT]
    have ih := hide (fun v x w (hx : x ∈ l) (hv : IsV anyB w n v x) => by have := ih v x t w hv (hz5 x hx) (hml x hx); rw [hT] at this; exact this)
    obtain ⟨m, hm⟩ : ∃ m, l.length = m := ⟨_, rfl⟩
    obtain ⟨p, hp⟩ : ∃ p, ks.length = p := ⟨_, rfl⟩
    obtain ⟨X, hX⟩ : ∃ x : ByteArray, (⟨s.toArray⟩ : ByteArray) = x := ⟨_, rfl⟩
    simp only
    rw [hX] at cR ⊢
    rw [hm, hp] at hoff
    rw [hm] at hz2 ⊢
    rw [hp] at hz3 ⊢
    have K1 := Blk.new w 26 #[.int .i64 k, .int .i64 i, .string X, .slice a m c, .slice b p e]
    have hBW := (Below.refl w.heap.size w).alloc (Nat.le_refl _) (.cells #[.int .i64 k, .int .i64 i, .string X, .slice a m c, .slice b p e] 26)
    have HM := hide hm; have HP := hide hp; have HL := hide hL; have HS := hide hS; have HXT := hide hXT
    have HOFF := hide hoff; have HTX := hide htx; have HKY := hide (show ∀ j, ks[j]? = some t → R = true from fun j h => hky h); have HPA := hide (show ∀ j x, l[j]? = some x → saysV n x t = true → R = true from fun j x h g => hpa h g); have HYT := hide hYT
    clear hm hp hR hL hS h hX hz5 hml hz4 hXT hY hT hms hM hoff htx hky hpa hYT
    obtain ⟨W, hW⟩ : ∃ W, w.alloc (.cells #[.int .i64 k, .int .i64 i, .string X, .slice a m c, .slice b p e] 26) = W := ⟨_, rfl⟩
    rw [hW] at K1 hBW
    have HW := hide hW
    have HBW := hide hBW; have HK := hide K1
    have HL := hide (HL.out.on (R' := IsV anyB W n) (stays_any hBW) (IsV.on (stays_any hBW) n))
    have HS := hide (HS.out.on (stays_any hBW))
    clear hW hBW
    have p0 := K1.cell 0; have p2 := K1.cell 2; have p3 := K1.cell 3; have p4 := K1.cell 4
    simp at p0 p2 p3 p4
    have z1 := K1.lt
    by_cases hk : k = 4
    · rcases Bool.eq_false_or_eq_true (repairR s == t) with gq | gq
      · have hRt := hide (HTX.out hk (by simpa using gq))
        have hq : (Y.toList == T.toList) = true := by rw [HYT.out, gq]
        subst hk
        go_enter Tryd.func30, Tryd.ntmps30
        go_wp2_with fail
        rw [HW.out]
        go_wp2_with (go_at_call 29; refine (cR.out _).mono ?_; rintro e w1 ⟨rfl, hb1⟩)
        go_ret
        exact ⟨ret_bool hRt.out.symm, below_step HBW.out hb1⟩
      · have hN := hide (show ¬ (k = 4 ∧ repairR s = t) from fun ⟨_, h⟩ => by rw [h] at gq; simp at gq)
        have hq : (Y.toList == T.toList) = false := by rw [HYT.out, gq]
        subst hk
        go_enter Tryd.func30, Tryd.ntmps30
        go_wp2_with fail
        rw [HW.out]
        go_wp2_with (go_at_call 29; refine (cR.out _).mono ?_; rintro e w1 ⟨rfl, hb1⟩)
        have HBB := hide hb1
        clear hb1 hq gq cR
        go_loopw [5] (fun i wr => ∃ j : Nat, i = .int .i64 (j : Int) ∧ j ≤ p ∧ Below W.heap.size W wr ∧ Hid (∀ r x, r < j → ks[r]? = some x → x ≠ t)) (fun i _ => p - (intOf i).toNat)
        case atStart => exact ⟨0, rfl, Nat.zero_le _, HBB.out, fun r x h => absurd h (Nat.not_lt_zero _)⟩
        case round =>
          obtain ⟨j, rfl, hj, hb, hall⟩ := hrel
          have p4r := (hb.cell (p := ⟨w.heap.size, 4, none⟩) z1).trans p4
          have zr1 : w.heap.size < wr.heap.size := Nat.lt_of_lt_of_le z1 hb.size
          by_cases hil : j < p
          · obtain ⟨x, hx⟩ : ∃ x, ks[j]? = some x := ⟨_, List.getElem?_eq_getElem (by have := HP.out; omega)⟩
            obtain ⟨g, o, rfl, hg, _, f1⟩ := HS.out j x hx
            have f1 := (hb.cell (p := ⟨g, o + j, none⟩) hg).trans f1
            have hgr : g < wr.heap.size := Nat.lt_of_lt_of_le hg hb.size
            have hji : (j : Int) < (p : Int) := by omega
            have hxt := HXT.out x
            obtain ⟨Z, hZ⟩ : ∃ Z : ByteArray, (⟨x.toArray⟩ : ByteArray) = Z := ⟨_, rfl⟩
            rw [hZ] at hxt f1
            rcases Bool.eq_false_or_eq_true (x == t) with gx | gx
            · rw [gx] at hxt
              have hF := hide (show R = true from HKY.out j (by have := eq_of_beq gx; rw [← this]; exact hx))
              clear hall hx hZ gx
              go_wp2_with fail
              go_ret
              exact ⟨ret_bool hF.out.symm, below_step HBW.out hb⟩
            · rw [gx] at hxt
              have hnx : Hid (∀ r x, r < j + 1 → ks[r]? = some x → x ≠ t) := by
                intro r y hr hy
                rcases Nat.lt_or_ge r j with h | h
                · exact hall.out r y h hy
                · obtain rfl : r = j := by omega
                  rw [hx] at hy
                  injection hy with hy
                  rw [← hy]
                  intro e; rw [e] at gx; simp at gx
              clear hall hx hZ gx
              go_wp2_with fail
              go_roundw
              case rel => exact ⟨j + 1, by go_num, by omega, hb, hnx⟩
              case measure => simp [intOf]; omega
          · obtain rfl : j = p := by omega
            have hif : decide ((j : Int) < (j : Int)) = false := by simp
            have HALL := hide hall.out
            clear hall
            go_wp2_with fail
            go_loopw [6] (fun i wr => ∃ j2 : Nat, i = .int .i64 (j2 : Int) ∧ j2 ≤ m ∧ Below W.heap.size W wr ∧ Hid (∀ r x, r < j2 → l[r]? = some x → saysV n x t = false)) (fun i _ => m - (intOf i).toNat)
            case atStart => exact ⟨0, rfl, Nat.zero_le _, hb, fun r x h => absurd h (Nat.not_lt_zero _)⟩
            case round =>
              clear hb zr1 p4r
              obtain ⟨j2, rfl, hj2, hb, hall⟩ := hrel
              have p3r := (hb.cell (p := ⟨w.heap.size, 3, none⟩) z1).trans p3
              have zr1 := Nat.lt_of_lt_of_le z1 hb.size
              by_cases hil2 : j2 < m
              · obtain ⟨x, hx⟩ : ∃ x, l[j2]? = some x := ⟨_, List.getElem?_eq_getElem (by have := HM.out; omega)⟩
                obtain ⟨g, o, rfl, hg, _, ka, ia, sa, aa, na, ca, ba, ma, da, hF, hV⟩ := (HL.out.on (stays_any hb) (IsV.on (stays_any hb) n)) j2 x hx
                obtain ⟨f0, f1, f2, f3, f4⟩ := hF
                have hgr : g < wr.heap.size := hg
                have hji : (j2 : Int) < (m : Int) := by omega
                have cS := hide (ih.out _ x _ (List.mem_of_getElem? hx) hV)
                obtain ⟨q, hq⟩ : ∃ q, saysV n x t = q := ⟨_, rfl⟩
                rw [hq] at cS
                have HX := hide hx; have HQ := hide hq
                clear hV hx hq
                cases q
                · have hnx : Hid (∀ r x, r < j2 + 1 → l[r]? = some x → saysV n x t = false) := by
                    intro r y hr hy
                    rcases Nat.lt_or_ge r j2 with h | h
                    · exact hall.out r y h hy
                    · obtain rfl : r = j2 := by omega
                      have := HX.out
                      rw [hy] at this
                      injection this with this
                      rw [this]; exact HQ.out
                  clear hall
                  go_wp2_with fail
                  refine (cS.out).mono ?_
                  rintro e w3 ⟨rfl, hb3⟩
                  go_wp2_with fail
                  go_roundw
                  case rel => exact ⟨j2 + 1, by go_num, by omega, hb.trans (hb3.mono hb.size), hnx⟩
                  case measure => simp [intOf]; omega
                · have hF := hide (show R = true from HPA.out j2 x HX.out HQ.out)
                  clear hall
                  go_wp2_with fail
                  refine (cS.out).mono ?_
                  rintro e w3 ⟨rfl, hb3⟩
                  go_wp2_with fail
                  go_ret
                  exact ⟨ret_bool hF.out.symm, below_step HBW.out (hb.trans (hb3.mono hb.size))⟩
              · obtain rfl : j2 = m := by omega
                have hif2 : decide ((j2 : Int) < (j2 : Int)) = false := by simp
                have hF := hide (show R = false from HOFF.out hN.out (fun r x h => HALL.out r x h) (fun r x h => hall.out r x h))
                clear hall
                go_wp2_with fail
                go_ret
                exact ⟨ret_bool hF.out.symm, below_step HBW.out hb⟩
    · have hN := hide (show ¬ (k = 4 ∧ repairR s = t) from fun h => hk h.1)
      have hkq : (k == 4) = false := by simpa using hk
      go_enter Tryd.func30, Tryd.ntmps30
      go_wp2_with fail
      rw [HW.out]
      go_wp2_with fail
      · have HBB := hide (Below.refl W.heap.size W)
        go_loopw [5] (fun i wr => ∃ j : Nat, i = .int .i64 (j : Int) ∧ j ≤ p ∧ Below W.heap.size W wr ∧ Hid (∀ r x, r < j → ks[r]? = some x → x ≠ t)) (fun i _ => p - (intOf i).toNat)
        case atStart => exact ⟨0, rfl, Nat.zero_le _, HBB.out, fun r x h => absurd h (Nat.not_lt_zero _)⟩
        case round =>
          obtain ⟨j, rfl, hj, hb, hall⟩ := hrel
          have p4r := (hb.cell (p := ⟨w.heap.size, 4, none⟩) z1).trans p4
          have zr1 : w.heap.size < wr.heap.size := Nat.lt_of_lt_of_le z1 hb.size
          by_cases hil : j < p
          · obtain ⟨x, hx⟩ : ∃ x, ks[j]? = some x := ⟨_, List.getElem?_eq_getElem (by have := HP.out; omega)⟩
            obtain ⟨g, o, rfl, hg, _, f1⟩ := HS.out j x hx
            have f1 := (hb.cell (p := ⟨g, o + j, none⟩) hg).trans f1
            have hgr : g < wr.heap.size := Nat.lt_of_lt_of_le hg hb.size
            have hji : (j : Int) < (p : Int) := by omega
            have hxt := HXT.out x
            obtain ⟨Z, hZ⟩ : ∃ Z : ByteArray, (⟨x.toArray⟩ : ByteArray) = Z := ⟨_, rfl⟩
            rw [hZ] at hxt f1
            rcases Bool.eq_false_or_eq_true (x == t) with gx | gx
            · rw [gx] at hxt
              have hF := hide (show R = true from HKY.out j (by have := eq_of_beq gx; rw [← this]; exact hx))
              clear hall hx hZ gx
              go_wp2_with fail
              go_ret
              exact ⟨ret_bool hF.out.symm, below_step HBW.out hb⟩
            · rw [gx] at hxt
              have hnx : Hid (∀ r x, r < j + 1 → ks[r]? = some x → x ≠ t) := by
                intro r y hr hy
                rcases Nat.lt_or_ge r j with h | h
                · exact hall.out r y h hy
                · obtain rfl : r = j := by omega
                  rw [hx] at hy
                  injection hy with hy
                  rw [← hy]
                  intro e; rw [e] at gx; simp at gx
              clear hall hx hZ gx
              go_wp2_with fail
              go_roundw
              case rel => exact ⟨j + 1, by go_num, by omega, hb, hnx⟩
              case measure => simp [intOf]; omega
          · obtain rfl : j = p := by omega
            have hif : decide ((j : Int) < (j : Int)) = false := by simp
            have HALL := hide hall.out
            clear hall
            go_wp2_with fail
            go_loopw [6] (fun i wr => ∃ j2 : Nat, i = .int .i64 (j2 : Int) ∧ j2 ≤ m ∧ Below W.heap.size W wr ∧ Hid (∀ r x, r < j2 → l[r]? = some x → saysV n x t = false)) (fun i _ => m - (intOf i).toNat)
            case atStart => exact ⟨0, rfl, Nat.zero_le _, hb, fun r x h => absurd h (Nat.not_lt_zero _)⟩
            case round =>
              clear hb zr1 p4r
              obtain ⟨j2, rfl, hj2, hb, hall⟩ := hrel
              have p3r := (hb.cell (p := ⟨w.heap.size, 3, none⟩) z1).trans p3
              have zr1 := Nat.lt_of_lt_of_le z1 hb.size
              by_cases hil2 : j2 < m
              · obtain ⟨x, hx⟩ : ∃ x, l[j2]? = some x := ⟨_, List.getElem?_eq_getElem (by have := HM.out; omega)⟩
                obtain ⟨g, o, rfl, hg, _, ka, ia, sa, aa, na, ca, ba, ma, da, hF, hV⟩ := (HL.out.on (stays_any hb) (IsV.on (stays_any hb) n)) j2 x hx
                obtain ⟨f0, f1, f2, f3, f4⟩ := hF
                have hgr : g < wr.heap.size := hg
                have hji : (j2 : Int) < (m : Int) := by omega
                have cS := hide (ih.out _ x _ (List.mem_of_getElem? hx) hV)
                obtain ⟨q, hq⟩ : ∃ q, saysV n x t = q := ⟨_, rfl⟩
                rw [hq] at cS
                have HX := hide hx; have HQ := hide hq
                clear hV hx hq
                cases q
                · have hnx : Hid (∀ r x, r < j2 + 1 → l[r]? = some x → saysV n x t = false) := by
                    intro r y hr hy
                    rcases Nat.lt_or_ge r j2 with h | h
                    · exact hall.out r y h hy
                    · obtain rfl : r = j2 := by omega
                      have := HX.out
                      rw [hy] at this
                      injection this with this
                      rw [this]; exact HQ.out
                  clear hall
                  go_wp2_with fail
                  refine (cS.out).mono ?_
                  rintro e w3 ⟨rfl, hb3⟩
                  go_wp2_with fail
                  go_roundw
                  case rel => exact ⟨j2 + 1, by go_num, by omega, hb.trans (hb3.mono hb.size), hnx⟩
                  case measure => simp [intOf]; omega
                · have hF := hide (show R = true from HPA.out j2 x HX.out HQ.out)
                  clear hall
                  go_wp2_with fail
                  refine (cS.out).mono ?_
                  rintro e w3 ⟨rfl, hb3⟩
                  go_wp2_with fail
                  go_ret
                  exact ⟨ret_bool hF.out.symm, below_step HBW.out (hb.trans (hb3.mono hb.size))⟩
              · obtain rfl : j2 = m := by omega
                have hif2 : decide ((j2 : Int) < (j2 : Int)) = false := by simp
                have hF := hide (show R = false from HOFF.out hN.out (fun r x h => HALL.out r x h) (fun r x h => hall.out r x h))
                clear hall
                go_wp2_with fail
                go_ret
                exact ⟨ret_bool hF.out.symm, below_step HBW.out hb⟩
end Go.Proofs.YtdnmgpidfjkiaaaDoor
