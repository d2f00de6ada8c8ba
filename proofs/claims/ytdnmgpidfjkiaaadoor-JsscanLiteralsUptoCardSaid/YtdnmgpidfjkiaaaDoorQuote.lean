/-
  literal.plain, unit, Quote; jstext.Escape.
-/
import Derived.Test.YtdnmgpidfjkiaaaDoorChars
import Derived.Test.YtdnmgpidfjkiaaaDoorPctEnc
import Derived.Test.YtdnmgpidfjkiaaaDoorM1
namespace Go.Proofs.YtdnmgpidfjkiaaaDoor
open Go.RowKit
set_option linter.unusedVariables false
set_option linter.unusedSimpArgs false

def spL : List UInt8 := [32, 95, 46, 44]
theorem plainC_split (x : UInt8) (h : x.toNat < 128) : plainC x.toNat = (isLetter x || ((decide (48 ≤ (x.toNat : Int)) && decide ((x.toNat : Int) ≤ 57)) || spL.any (· == x))) := by
  rw [← dig_split]
  unfold plainC
  have : u8 x.toNat = x := u8_self x
  rw [this, decide_eq_true h, Bool.true_and]; rfl
set_option maxHeartbeats 1000000 in
set_option maxRecDepth 100000 in
theorem plainC_octet_any (x : UInt8) (h : x.toNat < 128) (w : World) : Calls Tryd.prog 62 #[.int .i64 (x.toNat : Int)] w fun e w' => e = .returned (.bool (plainC x.toNat)) ∧ w = w' := by
  have cL := letter_any x w
  have cI := at_index spL x w
  have hlt : (x.toNat : Int) < 128 := by omega
  have hwr : IntKind.u8.wrap (x.toNat : Int) = (x.toNat : Int) := by
    unfold IntKind.wrap
    simp [IntKind.bits]
    omega
  rw [plainC_split x h]
  clear h
  generalize isLetter x = b1 at cL ⊢
  unfold spL at cI ⊢
  generalize List.any _ _ = b3 at cI ⊢
  have cL := hide cL; have cI := hide cI
  cases b1
  rotate_left
  · go_enter Tryd.func62, Tryd.ntmps62
    go_wp2_with (go_at_call 95; refine (cL.out).mono ?_; rintro e w1 ⟨rfl, rfl⟩)
    go_ret
    exact ⟨rfl, rfl⟩
  · rcases Bool.eq_false_or_eq_true (decide (48 ≤ (x.toNat : Int))) with g1 | g1
    · rcases Bool.eq_false_or_eq_true (decide ((x.toNat : Int) ≤ 57)) with g2 | g2
      · rw [g1, g2]
        go_enter Tryd.func62, Tryd.ntmps62
        go_wp2_with (first | (go_at_call 95; refine (cL.out).mono ?_; rintro e w1 ⟨rfl, rfl⟩) | (go_at_call 96; refine (cI.out).mono ?_; rintro e w1 ⟨⟨i, rfl, rfl⟩, rfl⟩))
        go_ret
        exact ⟨rfl, rfl⟩
      · rw [g1, g2]
        go_enter Tryd.func62, Tryd.ntmps62
        go_wp2_with (first | (go_at_call 95; refine (cL.out).mono ?_; rintro e w1 ⟨rfl, rfl⟩) | (go_at_call 96; refine (cI.out).mono ?_; rintro e w1 ⟨⟨i, rfl, rfl⟩, rfl⟩))
        go_ret
        exact ⟨by first | rfl | simp, rfl⟩
    · rw [g1]
      go_enter Tryd.func62, Tryd.ntmps62
      go_wp2_with (first | (go_at_call 95; refine (cL.out).mono ?_; rintro e w1 ⟨rfl, rfl⟩) | (go_at_call 96; refine (cI.out).mono ?_; rintro e w1 ⟨⟨i, rfl, rfl⟩, rfl⟩))
      go_ret
      exact ⟨by first | rfl | simp, rfl⟩
set_option maxHeartbeats 1000000 in
theorem plainC_any (m : Nat) (hm : m ≤ 1114111) (w : World) : Calls Tryd.prog 62 #[.int .i64 (m : Int)] w fun e w' => e = .returned (.bool (plainC m)) ∧ w = w' := by
  by_cases h : m < 128
  · have h1 : (u8 m).toNat = m := u8_toNat (by omega)
    have := plainC_octet_any (u8 m) (by omega) w
    rw [h1] at this
    exact this
  · have hp : plainC m = false := by unfold plainC; rw [decide_eq_false h]; rfl
    rw [hp]
    have hge : decide ((m : Int) < 128) = false := by simp; omega
    clear h hp
    go_enter Tryd.func62, Tryd.ntmps62
    go_wp2_with fail
    go_ret
    exact ⟨rfl, rfl⟩
set_option maxHeartbeats 1000000 in
theorem litUnit_any (B b : Nat) (ys : List UInt8) (n : Nat) (hn : n ≤ 1114111) (w : World) (hI : IsBT 87 B b ys w) (hlen : ys.length ≤ 100000000000) (hBw : B ≤ w.heap.size) :
    Calls Tryd.prog 63 #[.pointer (some ⟨b, 0, none⟩), .int .i64 (n : Int)] w fun e w' => (∃ v, e = .returned v) ∧ IsBT 87 B b (ys ++ uniR n) w' ∧ Below B w w' ∧ Spare b w w' := by
  have cS := hide (btStr btBuilder B b ys [92, 117] w hI (by simp; omega) hBw)
  have cH := hide (fun w => hex_any (n : Int) 4 w (by omega) (by omega))
  have h4 := pHex4_len (n : Int)
  have hu : uniR n = [92, 117] ++ pHex (n : Int) 4 := rfl
  rw [hu]
  generalize pHex (n : Int) 4 = hx at cH h4 ⊢
  clear hu
  go_enter Tryd.func63, Tryd.ntmps63
  go_wp2_with (go_at_call 72; refine (cS.out).mono ?_)
  rintro e w1 ⟨⟨v, rfl⟩, hI1, hb1, hs1⟩
  have hz1 := hb1.size
  go_wp2_with (go_at_call 97; refine (cH.out _).mono ?_)
  rintro e w2 ⟨rfl, hb2⟩
  have hI2 := isBT_keep hI1 hb2
  have hz2 := hb2.size
  go_wp2_with (go_at_call 72; refine (btStr btBuilder B b _ hx _ hI2 (by simp; omega) (by omega)).mono ?_)
  rintro e w3 ⟨⟨v, rfl⟩, hI3, hb3, hs3⟩
  go_wp2_with fail
  go_end0
  refine ⟨⟨_, rfl⟩, by simpa using hI3, (hb1.trans (hb2.mono (by omega))).trans hb3, ?_⟩
  intro k cs T hk hT hkb
  have h1 := hs1 k cs T hk hT hkb
  exact hs3 k cs T ((hb2.block k (lt_of_heap h1)).trans h1) hT hkb
theorem shr_10 (n : Nat) : ((n : Int) >>> (10 : Nat)) = ((n / 1024 : Nat) : Int) := by
  rw [Int.shiftRight_eq_div_pow]; rfl
theorem and_1023 (n : Nat) (hn : n < 4294967296) : bits BinOp.and IntKind.i64 (n : Int) 1023 = (n : Int) % 1024 := by
  show IntKind.i64.wrap ((BitVec.ofInt 64 (n : Int) &&& BitVec.ofInt 64 1023).toNat : Int) = _
  have h1 : (BitVec.ofInt 64 (n : Int)).toNat = n := by rw [BitVec.ofInt_natCast, BitVec.toNat_ofNat]; exact Nat.mod_eq_of_lt (by omega)
  have h2 : (BitVec.ofInt 64 1023).toNat = 2 ^ 10 - 1 := by decide
  rw [BitVec.toNat_and, h1, h2, Nat.and_two_pow_sub_one_eq_mod, IntKind.wrap_i64]
  omega
theorem ints_cell {cs : List Int} {cur : Array Value} {n : Nat} (h : cur.toList.take (n * 1) = ints cs) (hn : n = cs.length) (k : Nat) (c : Int) (hc : cs[k]? = some c) : cur[k]? = some (.int .i64 c) := by
  have hk : k < cs.length := (List.getElem?_eq_some_iff.1 hc).1
  rw [← Array.getElem?_toList, ← List.getElem?_take_of_lt (show k < n * 1 by omega), h]
  simp [ints, hc]
set_option maxHeartbeats 4000000 in
set_option maxRecDepth 100000 in
theorem quote_any (l : List UInt8) (w : World) (hz : l.length ≤ 1000000000) (hT : Lib.Utf8Tabs 3 4 w) :
    Calls Tryd.prog 34 #[.string ⟨l.toArray⟩] w fun e w' => e = .returned (.string ⟨(34 :: (escR l ++ [34])).toArray⟩) ∧ Below w.heap.size w w' := by
  have hm := charsR_len l
  have hgood := charsR_good l
  have hesc : escR l = (charsR l).flatMap quoteI := rfl
  have cC := fun w hT => chars_any l w hz hT
  rw [hesc]
  clear hesc
  generalize charsR l = cs at cC hm hgood ⊢
  have HG := hide hgood
  have cC := hide cC
  obtain ⟨R, hR⟩ : ∃ R, cs.flatMap quoteI = R := ⟨_, rfl⟩
  rw [hR]
  have HR := hide hR
  clear hgood hR
  have hI0 := isBT_new 87 w w.heap.size (Nat.le_refl _)
  have hB0 := (Below.refl w.heap.size w).alloc (Nat.le_refl _) (.cells #[.pointer none, .slice none 0 0] 87)
  go_enter Tryd.func34, Tryd.ntmps34
  go_wp2_with fail
  generalize hW : w.alloc (.cells #[.pointer none, .slice none 0 0] 87) = W at hI0 hB0 ⊢
  clear hW
  have c34 := btByte btBuilder w.heap.size w.heap.size [] 34 _ hI0 (by simp) hB0.size
  rw [show (((34 : UInt8).toNat : Nat) : Int) = 34 from rfl] at c34
  refine c34.mono ?_
  rintro e w1 ⟨rfl, hI1, hb1, _⟩
  have hB1 := hB0.trans hb1
  have hT1 := Utf8Tabs_below hT hB1
  clear c34
  go_wp2_with fail
  refine (cC.out _ hT1).mono ?_
  rintro e w2 ⟨v, rfl, hown, hb2⟩
  have hI2 := isBT_keep hI1 hb2
  have hB2 := hB1.trans (hb2.mono hB1.size)
  have hlt1 := isBT_lt hI1
  clear hI0 hB0 hI1 hb1 hT1
  rcases hown.2 with ⟨rfl, hn0⟩ | ⟨g, cap, cur, rfl, hBg, hg, _, _, _, htake⟩
  · have hcs : cs = [] := List.eq_nil_of_length_eq_zero hn0
    have HR2 := hide (show R = [] by rw [← HR.out, hcs]; rfl)
    clear hown HR hn0 hcs
    go_wp2_with fail
    go_loop [10] (fun i => i = .int .i64 0) (fun _ => 0)
    case atStart => rfl
    case round =>
      subst hrel
      have hz2 := hB2.size
      go_wp2_with fail
      have c34 := btByte btBuilder w.heap.size w.heap.size _ 34 _ hI2 (by simp) hz2
      rw [show (((34 : UInt8).toNat : Nat) : Int) = 34 from rfl] at c34
      refine c34.mono ?_
      rintro e w3 ⟨rfl, hI3, hb3, _⟩
      have hB3 := hB2.trans hb3
      go_wp2_with fail
      refine (btString w.heap.size w.heap.size _ _ hI3 hB3.size).mono ?_
      rintro e w4 ⟨rfl, hb4⟩
      go_wp2_with fail
      go_ret
      exact ⟨by rw [HR2.out]; rfl, hB3.trans hb4⟩
  · have hcell := ints_cell htake rfl
    have hgb : g ≠ w.heap.size := by omega
    have hbk : Blk w2 g 3 cur := hg
    clear hown htake hg
    go_wp2_with fail
    go_loopw [10] (fun i wr => ∃ (k : Nat) (ys : List UInt8), i = .int .i64 (k : Int) ∧ k ≤ cs.length ∧ ys.length ≤ 12 * k + 1 ∧ IsBT 87 w.heap.size w.heap.size ys wr ∧ Blk wr g 3 cur ∧ Below w.heap.size w wr ∧ Hid (ys = 34 :: (cs.take k).flatMap quoteI)) (fun i _ => cs.length - (intOf i).toNat)
    case atStart => exact ⟨0, [34], rfl, Nat.zero_le _, by simp, hI2, hbk, hB2, rfl⟩
    case round =>
      obtain ⟨k, ys, rfl, hk, hyk, hI, hbk, hb, hys⟩ := hrel
      have hbz := hb.size
      by_cases hlt : k < cs.length
      · obtain ⟨c, hc⟩ : ∃ c, cs[k]? = some c := ⟨_, List.getElem?_eq_getElem hlt⟩
        have hcc := hbk.cell k
        rw [hcell k c hc] at hcc
        have hgc := HG.out c (List.mem_of_getElem? hc)
        obtain ⟨hcn, hcb⟩ := good_nat hgc
        obtain ⟨m, rfl⟩ : ∃ m : Nat, c = (m : Int) := ⟨c.toNat, hcn.symm⟩
        have hm1 : m ≤ 1114111 := by omega
        have hnx := hide (show ys ++ quoteC m = 34 :: (cs.take (k + 1)).flatMap quoteI by
          rw [List.take_add_one, hc, hys.out]; simp [quoteI])
        have hql := (quoteC_len m).2
        have cP := hide (fun w => plainC_any m hm1 w)
        have hkm : (k : Int) < (cs.length : Int) := by omega
        clear hgc hcn hcb hc hys
        by_cases hp : plainC m = true
        · obtain ⟨p1, p2, p3, p4, _⟩ := plainC_octet m hp
          rw [p1] at hnx
          have cP := hide (fun w => (hp ▸ cP.out w))
          have hwr : IntKind.u8.wrap (m : Int) = (m : Int) := by
            unfold IntKind.wrap
            simp [IntKind.bits]
            omega
          have cB := btByte btBuilder w.heap.size w.heap.size ys (u8 m) wr hI (by omega) hbz
          rw [p4] at cB
          have cB := hide cB
          clear p1 p2 p4 hql
          go_wp2_with (first | (go_at_call 62; refine (cP.out _).mono ?_; rintro e w3 ⟨rfl, rfl⟩) | (go_at_call 60; refine (cB.out).mono ?_; rintro e w3 ⟨rfl, hI3, hb3, hs3⟩))
          go_roundw
          case rel => exact ⟨k + 1, ys ++ [u8 m], by go_num, by omega, by simp; omega, hI3, hs3 _ _ _ hbk (by decide) hgb, hb.trans hb3, hnx⟩
          case measure => simp [intOf]; omega
        · have hpf : plainC m = false := by simpa using hp
          have cP := hide (fun w => (hpf ▸ cP.out w))
          by_cases hg : 65535 < m
          · have hq : quoteC m = uniR (55296 + (m - 65536) / 1024) ++ uniR (56320 + (m - 65536) % 1024) := by unfold quoteC; rw [if_neg hp, if_pos hg]
            rw [hq] at hnx hql
            obtain ⟨n, hn⟩ : ∃ n, m - 65536 = n := ⟨_, rfl⟩
            rw [hn] at hnx hql
            have hmn : (m : Int) - 65536 = (n : Int) := by omega
            have hlu := uniR_len (55296 + n / 1024)
            have hlv := uniR_len (56320 + n % 1024)
            have cU := litUnit_any w.heap.size w.heap.size ys (55296 + n / 1024) (by omega) wr hI (by omega) hbz
            rw [show (((55296 + n / 1024 : Nat)) : Int) = 55296 + (n : Int) / 1024 by simp] at cU
            have cV := fun ys w1 hI hl hB => litUnit_any w.heap.size w.heap.size ys (56320 + n % 1024) (by omega) w1 hI hl hB
            rw [show (((56320 + n % 1024 : Nat)) : Int) = 56320 + (n : Int) % 1024 by simp] at cV
            have cU := hide cU; have cV := hide cV
            have hgd : (65535 : Int) < (m : Int) := by omega
            clear hp hpf hq hn
            go_wp2_with (first | (go_at_call 62; refine (cP.out _).mono ?_; rintro e w3 ⟨rfl, rfl⟩))
            refine (cU.out).mono ?_
            rintro e w3 ⟨⟨v, rfl⟩, hI3, hb3, hs3⟩
            have hbk3 := hs3 _ _ _ hbk (by decide) hgb
            have hB3 := hb.trans hb3
            have hbz3 := hB3.size
            clear hI hb3 hs3 hb
            have hcU : ys.length + 6 ≤ 100000000000 := by omega
            go_wp2_with fail
            rw [and_1023 n (by omega), IntWalk.wrap64_in _ (by omega)]
            refine (cV.out (ys ++ uniR (55296 + n / 1024)) _ hI3 (by simp; omega) hbz3).mono ?_
            rintro e w4 ⟨⟨v4, rfl⟩, hI4, hb4, hs4⟩
            have hbk4 := hs4 _ _ _ hbk3 (by decide) hgb
            have hB4 := hB3.trans hb4
            clear hI3 hb4 hs4 hB3
            go_wp2_with fail
            go_roundw
            case rel => exact ⟨k + 1, ys ++ (uniR (55296 + n / 1024) ++ uniR (56320 + n % 1024)), by go_num, by omega, by simp; omega, by rw [← List.append_assoc]; exact hI4, hbk4, hB4, hnx⟩
            case measure => simp [intOf]; omega
          · have hq : quoteC m = uniR m := by unfold quoteC; rw [if_neg hp, if_neg hg]
            rw [hq] at hnx hql
            have hgd : decide ((65535 : Int) < (m : Int)) = false := by simp; omega
            have hlu := uniR_len m
            have cU := hide (litUnit_any w.heap.size w.heap.size ys m (by omega) wr hI (by omega) hbz)
            clear hp hpf hq hg
            go_wp2_with (first | (go_at_call 62; refine (cP.out _).mono ?_; rintro e w3 ⟨rfl, rfl⟩) | (go_at_call 63; refine (cU.out).mono ?_; rintro e w3 ⟨⟨v, rfl⟩, hI3, hb3, hs3⟩))
            go_roundw
            case rel => exact ⟨k + 1, ys ++ uniR m, by go_num, by omega, by simp; omega, hI3, hs3 _ _ _ hbk (by decide) hgb, hb.trans hb3, hnx⟩
            case measure => simp [intOf]; omega
      · have hk2 : k = cs.length := by omega
        have hy2 : ys = 34 :: R := by rw [hys.out, hk2, List.take_length, HR.out]
        subst hy2
        have hge : decide ((k : Int) < (cs.length : Int)) = false := by simp; omega
        clear hk2 hys HR
        go_wp2_with fail
        have c34 := btByte btBuilder w.heap.size w.heap.size _ 34 _ hI (by omega) hbz
        rw [show (((34 : UInt8).toNat : Nat) : Int) = 34 from rfl] at c34
        refine c34.mono ?_
        rintro e w3 ⟨rfl, hI3, hb3, _⟩
        have hB3 := hb.trans hb3
        go_wp2_with fail
        refine (btString w.heap.size w.heap.size _ _ hI3 hB3.size).mono ?_
        rintro e w4 ⟨rfl, hb4⟩
        go_wp2_with fail
        go_ret
        exact ⟨rfl, hB3.trans hb4⟩
end Go.Proofs.YtdnmgpidfjkiaaaDoor
