/-
  muslinref04: Bare, Inside.
-/
import Derived.Test.YtdnmgpidfjkiaaaDoorM5
import Derived.Test.YtdnmgpidfjkiaaaDoorRefHex
import Derived.Test.YtdnmgpidfjkiaaaDoorRefChr
import Derived.Test.YtdnmgpidfjkiaaaDoorM1
import Derived.Deep.RegionWith
namespace Go.Proofs.YtdnmgpidfjkiaaaDoor
open Go.RowKit
set_option linter.unusedVariables false
set_option linter.unusedSimpArgs false

theorem bare_split (x : UInt8) (h : x.toNat < 128) : plainC x.toNat = (isLetter x || (isDig x || (((x.toNat : Int) == 32) || (((x.toNat : Int) == 95) || (((x.toNat : Int) == 46) || ((x.toNat : Int) == 44)))))) := by
  have hu : u8 x.toNat = x := u8_self x
  unfold plainC
  rw [hu, decide_eq_true h, Bool.true_and]
  exact eq_of_beq (allBytes (fun x => (isLetter x || (isDig x || ([32, 95, 46, 44] : List UInt8).any (· == x))) == (isLetter x || (isDig x || (((x.toNat : Int) == 32) || (((x.toNat : Int) == 95) || (((x.toNat : Int) == 46) || ((x.toNat : Int) == 44))))))) (by decide +kernel) x)
set_option maxHeartbeats 2000000 in
set_option maxRecDepth 100000 in
theorem bare_octet (x : UInt8) (h : x.toNat < 128) (w : World) : Calls Tryd.prog 53 #[.int .i64 (x.toNat : Int)] w fun e w' => e = .returned (.bool (plainC x.toNat)) ∧ w = w' := by
  have cL := fun w => refLet_any x w
  have cD := fun w => refDig_any x w
  have hlt : (x.toNat : Int) < 128 := by omega
  have hge : (0 : Int) ≤ (x.toNat : Int) := by omega
  have hwr : IntKind.u8.wrap (x.toNat : Int) = (x.toNat : Int) := by
    unfold IntKind.wrap
    simp [IntKind.bits]
    omega
  rw [bare_split x h]
  clear h
  generalize isLetter x = b1 at cL ⊢
  generalize isDig x = b2 at cD ⊢
  have cL := hide cL; have cD := hide cD
  cases b1
  rotate_left
  · go_enter Tryd.func53, Tryd.ntmps53
    go_wp2_with (first | (go_at_call 81; refine (cL.out _).mono ?_; rintro e w1 ⟨rfl, rfl⟩) | (go_at_call 82; refine (cD.out _).mono ?_; rintro e w1 ⟨rfl, rfl⟩))
    go_ret
    exact ⟨rfl, rfl⟩
  · cases b2
    rotate_left
    · go_enter Tryd.func53, Tryd.ntmps53
      go_wp2_with (first | (go_at_call 81; refine (cL.out _).mono ?_; rintro e w1 ⟨rfl, rfl⟩) | (go_at_call 82; refine (cD.out _).mono ?_; rintro e w1 ⟨rfl, rfl⟩))
      go_ret
      exact ⟨rfl, rfl⟩
    · rcases Bool.eq_false_or_eq_true ((x.toNat : Int) == 32) with g1 | g1
      · rw [g1]
        go_enter Tryd.func53, Tryd.ntmps53
        go_wp2_with (first | (go_at_call 81; refine (cL.out _).mono ?_; rintro e w1 ⟨rfl, rfl⟩) | (go_at_call 82; refine (cD.out _).mono ?_; rintro e w1 ⟨rfl, rfl⟩))
        go_ret
        exact ⟨rfl, rfl⟩
      · rcases Bool.eq_false_or_eq_true ((x.toNat : Int) == 95) with g2 | g2
        · rw [g1, g2]
          go_enter Tryd.func53, Tryd.ntmps53
          go_wp2_with (first | (go_at_call 81; refine (cL.out _).mono ?_; rintro e w1 ⟨rfl, rfl⟩) | (go_at_call 82; refine (cD.out _).mono ?_; rintro e w1 ⟨rfl, rfl⟩))
          go_ret
          exact ⟨rfl, rfl⟩
        · rcases Bool.eq_false_or_eq_true ((x.toNat : Int) == 46) with g3 | g3
          · rw [g1, g2, g3]
            go_enter Tryd.func53, Tryd.ntmps53
            go_wp2_with (first | (go_at_call 81; refine (cL.out _).mono ?_; rintro e w1 ⟨rfl, rfl⟩) | (go_at_call 82; refine (cD.out _).mono ?_; rintro e w1 ⟨rfl, rfl⟩))
            go_ret
            exact ⟨rfl, rfl⟩
          · rcases Bool.eq_false_or_eq_true ((x.toNat : Int) == 44) with g4 | g4
            · rw [g1, g2, g3, g4]
              go_enter Tryd.func53, Tryd.ntmps53
              go_wp2_with (first | (go_at_call 81; refine (cL.out _).mono ?_; rintro e w1 ⟨rfl, rfl⟩) | (go_at_call 82; refine (cD.out _).mono ?_; rintro e w1 ⟨rfl, rfl⟩))
              go_ret
              exact ⟨rfl, rfl⟩
            · rw [g1, g2, g3, g4]
              go_enter Tryd.func53, Tryd.ntmps53
              go_wp2_with (first | (go_at_call 81; refine (cL.out _).mono ?_; rintro e w1 ⟨rfl, rfl⟩) | (go_at_call 82; refine (cD.out _).mono ?_; rintro e w1 ⟨rfl, rfl⟩))
              go_ret
              exact ⟨rfl, rfl⟩
set_option maxHeartbeats 1000000 in
theorem bare_any (m : Nat) (hm : m ≤ 1114111) (w : World) : Calls Tryd.prog 53 #[.int .i64 (m : Int)] w fun e w' => e = .returned (.bool (plainC m)) ∧ w = w' := by
  by_cases h : m < 128
  · have h1 : (u8 m).toNat = m := u8_toNat (by omega)
    have := bare_octet (u8 m) (by omega) w
    rw [h1] at this
    exact this
  · have hp : plainC m = false := by unfold plainC; rw [decide_eq_false h]; rfl
    rw [hp]
    have hge : decide ((m : Int) < 128) = false := by simp; omega
    clear h hp
    go_enter Tryd.func53, Tryd.ntmps53
    go_wp2_with fail
    go_ret
    exact ⟨rfl, rfl⟩
theorem ints_cellR {cs : List Int} {cur : Array Value} {n : Nat} (h : cur.toList.take (n * 1) = ints cs) (hn : n = cs.length) (k : Nat) (c : Int) (hc : cs[k]? = some c) : cur[k]? = some (.int .i64 c) := by
  have hk : k < cs.length := (List.getElem?_eq_some_iff.1 hc).1
  rw [← Array.getElem?_toList, ← List.getElem?_take_of_lt (show k < n * 1 by omega), h]
  simp [ints, hc]
theorem app_lits (x t : List UInt8) : (⟨x.toArray⟩ : ByteArray) ++ ⟨t.toArray⟩ = ⟨(x ++ t).toArray⟩ := by apply ByteArray.ext; simp
set_option maxHeartbeats 4000000 in
set_option maxRecDepth 100000 in
theorem inside_any (l : List UInt8) (w : World) (hz : l.length ≤ 1000000000) :
    Calls Tryd.prog 26 #[.string ⟨l.toArray⟩] w fun e w' => e = .returned (.string ⟨(escR l).toArray⟩) ∧ Below w.heap.size w w' := by
  have hm := charsR_len l
  have hgood := charsR_good l
  have hesc : escR l = (charsR l).flatMap quoteI := rfl
  have cC := fun w => refChars_any l w hz
  rw [hesc]
  clear hesc
  generalize charsR l = cs at cC hm hgood ⊢
  have HG := hide hgood
  have cC := hide cC
  obtain ⟨R, hR⟩ : ∃ R, cs.flatMap quoteI = R := ⟨_, rfl⟩
  rw [hR]
  have HR := hide hR
  clear hgood hR
  go_enter Tryd.func26, Tryd.ntmps26
  go_wp2_with fail
  refine (cC.out _).mono ?_
  rintro e w2 ⟨v, rfl, hown, hb2⟩
  rcases hown.2 with ⟨rfl, hn0⟩ | ⟨g, cap, cur, rfl, hBg, hg, _, _, _, htake⟩
  · have hcs : cs = [] := List.eq_nil_of_length_eq_zero hn0
    obtain rfl : R = [] := by rw [← HR.out, hcs]; rfl
    clear hown HR hn0 hcs
    go_wp2_with fail
    go_loop [3, 5] (fun o i => o = .string ⟨#[]⟩ ∧ i = .int .i64 0) (fun _ _ => 0)
    case atStart => exact ⟨rfl, rfl⟩
    case round =>
      obtain ⟨rfl, rfl⟩ := hrel
      go_wp2_with fail
      go_ret
      exact ⟨rfl, hb2⟩
  · have hcell := ints_cellR htake rfl
    have hbk : Blk w2 g 3 cur := hg
    clear hown htake hg
    go_wp2_with fail
    go_loopw [3, 5] (fun o i wr => ∃ (k : Nat) (X : ByteArray), o = .string X ∧ i = .int .i64 (k : Int) ∧ k ≤ cs.length ∧ X.size ≤ 12 * k ∧ Blk wr g 3 cur ∧ Below w.heap.size w wr ∧ Hid (X = ⟨((cs.take k).flatMap quoteI).toArray⟩)) (fun _ i _ => cs.length - (intOf i).toNat)
    case atStart => exact ⟨0, ⟨#[]⟩, rfl, rfl, Nat.zero_le _, by decide, hbk, hb2, rfl⟩
    case round =>
      obtain ⟨k, X, rfl, rfl, hk, hyk, hbk, hb, hys⟩ := hrel
      have hbz := hb.size
      by_cases hlt : k < cs.length
      · obtain ⟨c, hc⟩ : ∃ c, cs[k]? = some c := ⟨_, List.getElem?_eq_getElem hlt⟩
        have hcc := hbk.cell k
        rw [hcell k c hc] at hcc
        have hgc := HG.out c (List.mem_of_getElem? hc)
        obtain ⟨hcn, hcb⟩ := good_nat hgc
        obtain ⟨m, rfl⟩ : ∃ m : Nat, c = (m : Int) := ⟨c.toNat, hcn.symm⟩
        have hm1 : m ≤ 1114111 := by omega
        have hnx : X ++ ⟨(quoteC m).toArray⟩ = ⟨((cs.take (k + 1)).flatMap quoteI).toArray⟩ := by
          rw [List.take_add_one, hc, hys.out, app_lits]; simp [quoteI]
        have hql := (quoteC_len m).2
        have cP := hide (fun w => bare_any m hm1 w)
        have hkm : (k : Int) < (cs.length : Int) := by omega
        have hXi : (X.size : Int) ≤ 100000000000 := by omega
        clear hgc hcn hcb hc hys
        by_cases hp : plainC m = true
        · obtain ⟨p1, _, p3, p4, _⟩ := plainC_octet m hp
          rw [p1] at hnx
          have cP := hide (fun w => (hp ▸ cP.out w))
          have hwr : IntKind.u8.wrap (m : Int) = (m : Int) := by
            unfold IntKind.wrap
            simp [IntKind.bits]
            omega
          have hcv := conv_new wr [u8 m] #[.int .u8 (m : Int)] 1 (by simp [bv, p4]) rfl
          have hX2 : (X ++ (⟨[u8 m].toArray⟩ : ByteArray)).size = X.size + 1 := by rw [ByteArray.size_append]; rfl
          have hB2 := hb.alloc hbz (.cells #[.int .u8 (m : Int)] 5)
          have hk2 := hbk.alloc (.cells #[.int .u8 (m : Int)] 5)
          have HN := hide hnx
          clear p1 p4 hql hnx
          go_wp2_with (first | (go_at_call 53; refine (cP.out _).mono ?_; rintro e w3 ⟨rfl, rfl⟩))
          go_roundw
          case rel => exact ⟨k + 1, X ++ ⟨[u8 m].toArray⟩, rfl, by go_num, by omega, by omega, hk2, hB2, HN⟩
          case measure => simp [intOf]; omega
        · have hpf : plainC m = false := by simpa using hp
          have cP := hide (fun w => (hpf ▸ cP.out w))
          by_cases hg : 65535 < m
          · have hq : quoteC m = uniR (55296 + (m - 65536) / 1024) ++ uniR (56320 + (m - 65536) % 1024) := by unfold quoteC; rw [if_neg hp, if_pos hg]
            rw [hq] at hnx
            obtain ⟨n, hn⟩ : ∃ n, m - 65536 = n := ⟨_, rfl⟩
            rw [hn] at hnx
            have hmn : (m : Int) - 65536 = (n : Int) := by omega
            have cH1 := fun w => refHex_any (55296 + ((n / 1024 : Nat) : Int)) 4 w (by omega) (by omega)
            have cH2 := fun w => refHex_any (56320 + ((n % 1024 : Nat) : Int)) 4 w (by omega) (by omega)
            have e1 : uniR (55296 + n / 1024) = [92, 117] ++ pHex (55296 + ((n / 1024 : Nat) : Int)) 4 := by unfold uniR; rw [Int.natCast_add]; rfl
            have e2 : uniR (56320 + n % 1024) = [92, 117] ++ pHex (56320 + ((n % 1024 : Nat) : Int)) 4 := by unfold uniR; rw [Int.natCast_add]; rfl
            rw [e1, e2] at hnx
            have l1 := pHex4_len (55296 + ((n / 1024 : Nat) : Int))
            have l2 := pHex4_len (56320 + ((n % 1024 : Nat) : Int))
            generalize pHex (55296 + ((n / 1024 : Nat) : Int)) 4 = x1 at cH1 hnx l1
            generalize pHex (56320 + ((n % 1024 : Nat) : Int)) 4 = x2 at cH2 hnx l2
            have HN := hide (show X ++ ⟨#[92, 117]⟩ ++ ⟨x1.toArray⟩ ++ ⟨#[92, 117]⟩ ++ ⟨x2.toArray⟩ = ⟨((cs.take (k + 1)).flatMap quoteI).toArray⟩ by
              rw [← hnx]; apply ByteArray.ext; simp)
            have hX2 : (X ++ ⟨#[92, 117]⟩ ++ ⟨x1.toArray⟩ ++ ⟨#[92, 117]⟩ ++ ⟨x2.toArray⟩ : ByteArray).size = X.size + 12 := by simp only [ByteArray.size_append, mk_size, l1, l2, show (ByteArray.mk #[92, 117]).size = 2 from rfl]
            have hq1 : (n : Int).tdiv 1024 = ((n / 1024 : Nat) : Int) := rfl
            have hq2 : (n : Int).tmod 1024 = ((n % 1024 : Nat) : Int) := rfl
            have hnb : n / 1024 ≤ 1024 := by omega
            have hnc : n % 1024 < 1024 := Nat.mod_lt _ (by omega)
            have hgd : (65536 : Int) ≤ (m : Int) := by omega
            have hm0 : (0 : Int) ≤ (n : Int) := by omega
            generalize n / 1024 = d1 at cH1 hq1 hnb
            generalize n % 1024 = d2 at cH2 hq2 hnc
            obtain ⟨D1, hD1⟩ : ∃ D, 55296 + (d1 : Int) = D := ⟨_, rfl⟩
            obtain ⟨D2, hD2⟩ : ∃ D, 56320 + (d2 : Int) = D := ⟨_, rfl⟩
            rw [hD1] at cH1
            rw [hD2] at cH2
            have cH1 := hide cH1; have cH2 := hide cH2
            clear hp hpf hq hn hg hnx e1 e2 hql
            go_wp2_with (first | (go_at_call 53; refine (cP.out _).mono ?_; rintro e w3 ⟨rfl, rfl⟩) | (go_at_call_of 54 (Value.int Go.IntKind.i64 D1); refine (cH1.out _).mono ?_; rintro e w4 ⟨rfl, rfl⟩) | (go_at_call_of 54 (Value.int Go.IntKind.i64 D2); refine (cH2.out _).mono ?_; rintro e w5 ⟨rfl, rfl⟩))
            go_roundw
            case rel => exact ⟨k + 1, _, rfl, by go_num, by omega, by rw [hX2]; omega, hbk, hb, HN⟩
            case measure => simp [intOf]; omega
          · have hq : quoteC m = uniR m := by unfold quoteC; rw [if_neg hp, if_neg hg]
            have e1 : uniR m = [92, 117] ++ pHex (m : Int) 4 := rfl
            rw [hq, e1] at hnx
            have cH1 := fun w => refHex_any (m : Int) 4 w (by omega) (by omega)
            have l1 := pHex4_len (m : Int)
            generalize pHex (m : Int) 4 = x1 at cH1 hnx l1
            have HN := hide (show X ++ ⟨#[92, 117]⟩ ++ ⟨x1.toArray⟩ = ⟨((cs.take (k + 1)).flatMap quoteI).toArray⟩ by
              rw [← hnx]; apply ByteArray.ext; simp)
            have hX2 : (X ++ ⟨#[92, 117]⟩ ++ ⟨x1.toArray⟩ : ByteArray).size = X.size + 6 := by simp only [ByteArray.size_append, mk_size, l1, show (ByteArray.mk #[92, 117]).size = 2 from rfl]
            have hgd : decide ((65536 : Int) ≤ (m : Int)) = false := by simp; omega
            have cH1 := hide cH1
            clear hp hpf hq hg hnx e1 hql
            go_wp2_with (first | (go_at_call 53; refine (cP.out _).mono ?_; rintro e w3 ⟨rfl, rfl⟩) | (go_at_call 54; refine (cH1.out _).mono ?_; rintro e w4 ⟨rfl, rfl⟩))
            go_roundw
            case rel => exact ⟨k + 1, _, rfl, by go_num, by omega, by rw [hX2]; omega, hbk, hb, HN⟩
            case measure => simp [intOf]; omega
      · have hk2 : k = cs.length := by omega
        have hy2 : X = ⟨R.toArray⟩ := by rw [hys.out, hk2, List.take_length, HR.out]
        subst hy2
        have hge : decide ((k : Int) < (cs.length : Int)) = false := by simp; omega
        clear hk2 hys HR
        go_wp2_with fail
        go_ret
        exact ⟨rfl, hb⟩
end Go.Proofs.YtdnmgpidfjkiaaaDoor
