/-
  octets.Unhex: a number of digits of base 16; the page's own.
-/
import Derived.Test.YtdnmgpidfjkiaaaDoorM1
import Derived.Test.YtdnmgpidfjkiaaaDoorOct
import Derived.Test.YtdnmgpidfjkiaaaDoorRefChr
namespace Go.Proofs.YtdnmgpidfjkiaaaDoor
open Go.RowKit
set_option linter.unusedVariables false

theorem getByteP {t : ByteArray} {k : Nat} (h : k < t.size) : t.data.toList[k]? = some (t[k]'h) := by
  rw [List.getElem?_eq_getElem (by rw [size_list]; exact h)]; rfl
theorem ret_twoP {a b : Int} {p : Int × Int} (h : (a, b) = p) : Ending.returned (.tuple #[.int .i64 a, .int .i64 b]) = .returned (.tuple #[.int .i64 p.1, .int .i64 p.2]) := by rw [← h]
theorem ofInt_i64 (a : Nat) (ha : a < 9223372036854775808) : (BitVec.ofInt 64 (a : Int)).toNat = a := by
  rw [BitVec.ofInt_natCast, BitVec.toNat_ofNat]; exact Nat.mod_eq_of_lt (by omega)
theorem i64_or_nat (a b : Nat) (ha : a < 9223372036854775808) (hb : b < 9223372036854775808) : bits .or .i64 (a : Int) (b : Int) = ((a ||| b : Nat) : Int) := by
  have hx : a ||| b < 2 ^ 63 := Nat.or_lt_two_pow (by omega) (by omega)
  show IntKind.i64.wrap ((BitVec.ofInt 64 (a : Int) ||| BitVec.ofInt 64 (b : Int)).toNat : Int) = _
  rw [BitVec.toNat_or, ofInt_i64 a ha, ofInt_i64 b hb, IntKind.wrap_i64]
  omega
theorem or_16 (n d : Nat) (hn : n < 268435456) (hd : d < 16) : bits .or .i64 ((n : Int) * 16) (d : Int) = (n : Int) * 16 + (d : Int) := by
  have e : (n : Int) * 16 = ((n * 16 : Nat) : Int) := by omega
  rw [e, i64_or_nat _ _ (by omega) (by omega)]
  have := Nat.two_pow_add_eq_or_of_lt (i := 4) (b := d) hd n
  rw [Nat.mul_comm, show 2 ^ 4 = 16 from rfl] at this
  omega

theorem digit_index (c : UInt8) (w : World) : Calls Tryd.prog 96 #[.string ⟨hexText.toArray⟩, .int .u8 ((smallB c).toNat : Int)] w fun e w' => e = .returned (.int .i64 (hexV c)) ∧ w = w' := by
  have h := strings_IndexByte ⟨hexText.toArray⟩ ((smallB c).toNat : Int) w
  have e : Lib.indexByte (ByteArray.mk hexText.toArray).data.toList ((smallB c).toNat : Int).toNat.toUInt8 = hexV c := by
    rw [← hexV_index c, Int.toNat_natCast]
    congr 1
    simp
  rw [e] at h
  exact h

set_option maxHeartbeats 1000000 in
set_option maxRecDepth 100000 in
theorem unhex_any (s : ByteArray) (w : World) (hs : s.size ≤ 9223372036854775807) :
    Calls Tryd.prog 125 #[.string s] w fun e w' => e = .returned (.tuple #[.int .i64 (pUnhex s.data.toList).1, .int .i64 (pUnhex s.data.toList).2]) ∧ Below w.heap.size w w' := by
  by_cases h1 : s.data.toList = []
  · have h1' : s.toList = [] := by rw [ByteArray.toList_eq]; exact h1
    have HF := hide (show pUnhex s.data.toList = (0, 8) by unfold pUnhex; rw [if_pos h1])
    clear h1
    go_enter Tryd.func125, Tryd.ntmps125
    go_wp2
    go_ret2
    exact ⟨ret_twoP HF.out.symm, Below.refl _ _⟩
  · have h1' : s.toList.isEmpty = false := by rw [ByteArray.toList_eq]; simpa using h1
    by_cases h2 : (8 : Int) < (s.size : Int)
    · have HF := hide (show pUnhex s.data.toList = (0, 5) by unfold pUnhex; rw [if_neg h1, if_pos (by rw [size_list]; omega)])
      clear h1
      go_enter Tryd.func125, Tryd.ntmps125
      go_wp2
      go_ret2
      exact ⟨ret_twoP HF.out.symm, Below.refl _ _⟩
    · have H1 := hide h1
      have H2 : Hid (¬ 8 < s.data.toList.length) := hide (by rw [size_list]; omega)
      obtain ⟨cap, W1, hcv, hrow, hbel, hlt, hcap⟩ := conv_bytes w s
      have HR := hide hrow; have HB := hide hbel; clear hrow hbel h1
      have HL := hide (size_list s)
      go_enter Tryd.func125, Tryd.ntmps125
      go_wp2
      clear hcv
      go_loop [4, 18] (fun v i => ∃ k n : Nat, i = .int .i64 (k : Int) ∧ v = .int .i64 (n : Int) ∧ k ≤ s.size ∧ Hid (HexRel s.data.toList k n)) (fun _ i => s.size - (intOf i).toNat)
      case atStart => exact ⟨0, 0, rfl, rfl, Nat.zero_le _, rfl, rfl⟩
      case round =>
        obtain ⟨k, n, rfl, rfl, hk, hrel⟩ := hrel
        by_cases hlt2 : k < s.size
        · have hc := getByteP hlt2
          obtain ⟨c, hcc⟩ : ∃ c, s[k]'hlt2 = c := ⟨_, rfl⟩
          rw [hcc] at hc
          have hcell := HR.out.cell hc
          have hr := hexV_range c
          have hI := hide (fun w => digit_index c w)
          unfold hexText at hI
          have HC := hide hc
          clear hc hcc
          by_cases hv : hexV c < 0
          · have HF := hide (hrel.out.bad H1.out H2.out HC.out hv)
            obtain ⟨v, hv2⟩ : ∃ v, hexV c = v := ⟨_, rfl⟩
            rw [hv2] at hI hv hr
            clear hv2
            go_wp2_with (first | (go_at_call 147; refine (small_any c _).mono ?_; rintro e w1 ⟨rfl, rfl⟩) | (go_at_call 96; refine (hI.out _).mono ?_; rintro e w1 ⟨rfl, rfl⟩))
            go_ret2
            exact ⟨ret_twoP HF.out.symm, HB.out⟩
          · have HF := hide (hrel.out.next HC.out (by omega))
            have hn := hrel.out.lt (by omega)
            obtain ⟨v, hv2⟩ : ∃ v : Nat, hexV c = (v : Int) := ⟨(hexV c).toNat, by omega⟩
            rw [hv2] at hI hv hr HF
            rw [Int.toNat_natCast] at HF
            have hor := or_16 n v hn (by omega)
            clear hv2
            go_wp2_with (first | (go_at_call 147; refine (small_any c _).mono ?_; rintro e w1 ⟨rfl, rfl⟩) | (go_at_call 96; refine (hI.out _).mono ?_; rintro e w1 ⟨rfl, rfl⟩))
            go_round
            case rel => exact ⟨k + 1, n * 16 + v, by go_num, by go_num, by omega, HF⟩
            case measure => simp [intOf]; omega
        · have HF := hide (hrel.out.end_ H1.out H2.out (by have := HL.out; omega))
          go_wp2
          go_ret2
          exact ⟨ret_twoP HF.out.symm, HB.out⟩


end Go.Proofs.YtdnmgpidfjkiaaaDoor
