/-
  FuncsMay: what is told of values that may be may be; it is plain, if they are. THE WALK.
-/
import Derived.Test.YtdnmgpidfjkiaaaVFun11
import Derived.Test.YtdnmgpidfjkiaaaVArgs
namespace Go.Proofs.Ytdnmgpidfjkiaaa
open Go.RowKit
set_option linter.unusedVariables false
set_option linter.unusedSimpArgs false

set_option maxHeartbeats 8000000 in
set_option maxRecDepth 100000 in
theorem funcsMay_walk (a0 : ByteArray) (s0 : a0.size ≤ 1048576) (v1 : Value) (w : World)
    (h1 : ∃ (n : Nat) (a : Option Addr) (c : Nat) (l : List (VT (n + 1))), v1 = .slice a l.length c ∧ ValsAt anyB w (IsV anyB w (n + 1)) a l ∧ sumBy (massV (n + 1)) l ≤ 1048576 ∧ ∀ y ∈ l, NumV (n + 1) y) :
    Calls Try.prog 5 #[.string a0, v1] w fun e w' => e = .returned (.bool true) ∧ Below w.heap.size w w' := by
  obtain ⟨n, a, c, l, rfl, hL, hM, hN⟩ := h1
  have hlen : l.length ≤ 1048576 := Nat.le_trans (sumBy_len (massV (n + 1)) (massV_pos (n + 1)) l) hM
  have hS : ∀ x ∈ l, SmallV (n + 1) x := fun x hx => small_of_mass (n + 1) x (Nat.le_trans (sumBy_mem (massV (n + 1)) l x hx) hM)
  have HL := hide hL; have HM := hide hM; have HN := hide hN; have HS := hide hS
  clear hL hM hN hS
  obtain ⟨m, hm⟩ : ∃ m, l.length = m := ⟨_, rfl⟩
  have HLEN := hide hm
  rw [hm] at hlen ⊢
  clear hm
  go_enter Try.func5, Try.ntmps5
  go_wp2_with fail
  refine (alive26 _).mono ?_
  rintro e w1 ⟨rfl, hb1⟩
  have HB := hide hb1
  clear hb1
  go_wp2_with fail
  go_loopw [5, 6] (fun o i wr => ∃ (j : Nat) (pb : Bool), o = .bool pb ∧ i = .int .i64 (j : Int) ∧ j ≤ m ∧ Below w.heap.size w wr ∧ Hid (pb = (l.take j).all (plainV (n + 1))) ∧ Hid (∀ r x, r < j → l[r]? = some x → checkV (n + 1) 0 x = 0)) (fun _ i _ => m - (intOf i).toNat)
  case atStart => exact ⟨0, true, rfl, rfl, Nat.zero_le _, HB.out, by show true = _; simp, fun r x h => absurd h (Nat.not_lt_zero _)⟩
  case round =>
    obtain ⟨j, pb, rfl, rfl, hj, hb, hpb, hall⟩ := hrel
    by_cases hil : j < m
    · obtain ⟨x, hx⟩ : ∃ x, l[j]? = some x := ⟨_, List.getElem?_eq_getElem (by have := HLEN.out; omega)⟩
      obtain ⟨g, o, rfl, hg, _, ka, ia, sa, aa, na, ca, ba, ma, da, hF, hV⟩ := HL.out j x hx
      obtain ⟨f0, f1, f2, f3, f4⟩ := hF.on (hb.block g hg)
      have hgr : g < wr.heap.size := Nat.lt_of_lt_of_le hg hb.size
      have hji : (j : Int) < (m : Int) := by omega
      have hsx := HS.out x (List.mem_of_getElem? hx)
      have cC := hide (fun W (h : Below w.heap.size w W) => refCheck_any (n + 1) anyB any_okF _ x W (hV.anyF h) hsx)
      have cP := hide (fun W (h : Below w.heap.size w W) => refPlain_any (n + 1) anyB any_okF _ x W (hV.anyF h) hsx)
      obtain ⟨q, hq⟩ : ∃ q, checkV (n + 1) 0 x = q := ⟨_, rfl⟩
      obtain ⟨r, hr⟩ : ∃ r, plainV (n + 1) x = r := ⟨_, rfl⟩
      rw [hq] at cC
      rw [hr] at cP
      have hnp := hide (show (l.take (j + 1)).all (plainV (n + 1)) = ((l.take j).all (plainV (n + 1)) && r) by
        rw [List.take_add_one, hx]; simp [hr])
      have HX := hide hx; have HQ := hide hq
      have HBR := hide hb
      clear hx hV hsx hq hr hF hb
      by_cases hq0 : q = 0
      · subst hq0
        have hnx : Hid (∀ r x, r < j + 1 → l[r]? = some x → checkV (n + 1) 0 x = 0) := by
          intro r y hr hy
          rcases Nat.lt_or_ge r j with h | h
          · exact hall.out r y h hy
          · obtain rfl : r = j := by omega
            have := HX.out
            rw [hy] at this
            injection this with this
            rw [this]; exact HQ.out
        clear hall
        go_wp2_with fail
        refine (cC.out _ HBR.out).mono ?_
        rintro e w2 ⟨rfl, hb2⟩
        have HB2 := hide (HBR.out.trans (hb2.mono HBR.out.size))
        have f0 := (hb2.cell (p := ⟨g, o + j * 5, none⟩) hgr).trans f0
        have f1 := (hb2.cell (p := ⟨g, o + j * 5 + 1, none⟩) hgr).trans f1
        have f2 := (hb2.cell (p := ⟨g, o + j * 5 + 2, none⟩) hgr).trans f2
        have f3 := (hb2.cell (p := ⟨g, o + j * 5 + 3, none⟩) hgr).trans f3
        have f4 := (hb2.cell (p := ⟨g, o + j * 5 + 4, none⟩) hgr).trans f4
        have hg2 : g < w2.heap.size := Nat.lt_of_lt_of_le hgr hb2.size
        cases pb
        · go_wp2_with fail
          go_roundw
          case rel => exact ⟨j + 1, false, rfl, by go_num, by omega, HB2.out, by show false = _; rw [hnp.out, ← hpb.out]; rfl, hnx⟩
          case measure => simp [intOf]; omega
        · go_wp2_with fail
          refine (cP.out _ HB2.out).mono ?_
          rintro e w3 ⟨rfl, hb3⟩
          go_wp2_with fail
          go_roundw
          case rel => exact ⟨j + 1, r, rfl, by go_num, by omega, HB2.out.trans (hb3.mono HB2.out.size), by show r = _; rw [hnp.out, ← hpb.out]; rfl, hnx⟩
          case measure => simp [intOf]; omega
      · have hqt : (q != 0) = true := by simpa using hq0
        clear hall hpb
        go_wp2_with fail
        refine (cC.out _ HBR.out).mono ?_
        rintro e w2 ⟨rfl, hb2⟩
        go_wp2_with fail
        go_ret
        exact ⟨rfl, HBR.out.trans (hb2.mono HBR.out.size)⟩
    · obtain rfl : j = m := by omega
      have hif : decide ((j : Int) < (j : Int)) = false := by simp
      have hpl : pb = l.all (plainV (n + 1)) := by
        have := hpb.out
        rw [List.take_of_length_le (by have := HLEN.out; omega)] at this
        exact this
      have hargs : ArgsV n pb w a l := ⟨HL.out, fun x hx => by
        obtain ⟨r, hr, e⟩ := List.getElem_of_mem hx
        refine ⟨HS.out x hx, hall.out r x (by have := HLEN.out; omega) (by rw [List.getElem?_eq_getElem hr, e]), HN.out x hx, fun h => ?_⟩
        rw [hpl, List.all_eq_true] at h
        exact h x hx, HM.out⟩
      have ha0 : a0 = ⟨a0.data.toList.toArray⟩ := by cases a0; simp
      have cC := hide (fun W (h : Below w.heap.size w W) => by
        have := call_any n pb a0.data.toList a c l W (hargs.step h) (by have := HLEN.out; omega)
        rw [← ha0, HLEN.out] at this
        exact this)
      have HBR := hide hb
      clear hpl hargs ha0 hpb hall hb
      go_wp2_with fail
      refine (cC.out _ HBR.out).mono ?_
      rintro e w2 ⟨⟨kv, iv, sv, av, nv, cv, bv, mv, ev⟩, er, rfl, ⟨q, d, hV, hsv, hcv, hpv⟩, hb2⟩
      have HB2 := hide (HBR.out.trans (hb2.mono HBR.out.size))
      have hbA := (Below.refl w2.heap.size w2).alloc (Nat.le_refl _) (.cells #[.int .i64 kv, .int .i64 iv, .string sv, .slice av nv cv, .slice bv mv ev] 25)
      have HBA := hide hbA
      have KV := hide (Blk.new w2 25 #[.int .i64 kv, .int .i64 iv, .string sv, .slice av nv cv, .slice bv mv ev])
      have hVa := fresh_any hV
      have cK := hide (fun W (h : Below w2.heap.size w2 W) => refCheck_any (q + 1) anyB any_okF _ d W (hVa.anyF h) hsv)
      rw [hcv] at cK
      have cP := hide (fun W (h : Below w2.heap.size w2 W) => refPlain_any (q + 1) anyB any_okF _ d W (hVa.anyF h) hsv)
      obtain ⟨r, hr⟩ : ∃ r, plainV (q + 1) d = r := ⟨_, rfl⟩
      rw [hr] at cP hpv
      have HPV := hide hpv
      clear hV hVa hsv hcv hpv hr hb2 hbA cC
      go_wp2_with fail
      refine (cK.out _ HBA.out).mono ?_
      rintro e w3 ⟨rfl, hb3⟩
      have K3 := KV.out.below hb3 KV.out.lt
      have HB3 := hide (below_step HBA.out hb3)
      have z0 := K3.cell 0; have z1 := K3.cell 1; have z2 := K3.cell 2; have z3 := K3.cell 3; have z4 := K3.cell 4
      simp at z0 z1 z2 z3 z4
      have zl := K3.lt
      clear K3 hb3
      have HE := hide (HB2.out.trans (HB3.out.mono HB2.out.size))
      by_cases he : er = 0
      · subst he
        cases pb
        · clear cP
          go_wp2_with (go_at_call 25; refine (num26 _ _).mono ?_; rintro e wn ⟨rfl, rfl⟩)
          go_ret
          exact ⟨rfl, HE.out⟩
        · obtain rfl : r = true := HPV.out rfl
          go_wp2_with (first | (go_at_call 25; refine (num26 _ _).mono ?_; rintro e wn ⟨rfl, rfl⟩))
          refine (cP.out _ HB3.out).mono ?_
          rintro e w4 ⟨rfl, hb4⟩
          go_wp2_with fail
          go_ret
          exact ⟨rfl, HE.out.trans (hb4.mono HE.out.size)⟩
      · have hqe : (er != 0) = true := by simpa using he
        clear cP
        go_wp2_with (go_at_call 25; refine (num26 _ _).mono ?_; rintro e wn ⟨rfl, rfl⟩)
        go_ret
        exact ⟨rfl, HE.out⟩
end Go.Proofs.Ytdnmgpidfjkiaaa
