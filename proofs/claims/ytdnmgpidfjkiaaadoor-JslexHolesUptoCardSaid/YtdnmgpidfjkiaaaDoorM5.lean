/-
  PLAIN LAWS of many texts, in one.
-/
import Derived.Test.YtdnmgpidfjkiaaaDoorM1
import Derived.Test.YtdnmgpidfjkiaaaDoorCut
import Derived.Test.YtdnmgpidfjkiaaaDoorM6
import Derived.RegionTactic
import Derived.Outline
import Derived.IntWalk
import Derived.OwnWalk
import Derived.Deep.OwnRows
import Derived.Lib.AppendStr
namespace Go.Proofs.YtdnmgpidfjkiaaaDoor
open Go.RowKit
set_option linter.unusedVariables false
set_option linter.unusedSimpArgs false

set_option maxHeartbeats 1000000 in
theorem sizeR_any (b : UInt8) (w : World) : Calls Tryd.prog 108 #[.int .u8 (b.toNat : Int)] w fun e w' => e = .returned (.int .i64 (sizeR b : Int)) ∧ w = w' := by
  have hb := b.toNat_lt
  by_cases h1 : (b.toNat : Int) < 128
  · rw [show sizeR b = 1 by unfold sizeR; rw [if_pos (by omega)]]
    go_enter Tryd.func108, Tryd.ntmps108
    go_wp2
    go_ret
    exact ⟨rfl, rfl⟩
  · have h1' : 128 ≤ (b.toNat : Int) := by omega
    by_cases h2 : (194 : Int) ≤ (b.toNat : Int)
    · by_cases h3 : (b.toNat : Int) < 224
      · rw [show sizeR b = 2 by unfold sizeR; rw [if_neg (by omega), if_pos (by omega)]]
        go_enter Tryd.func108, Tryd.ntmps108
        go_wp2
        go_ret
        exact ⟨rfl, rfl⟩
      · have h3' : (224 : Int) ≤ (b.toNat : Int) := by omega
        have h3d : decide ((b.toNat : Int) < 224) = false := by simpa using h3
        by_cases h4 : (b.toNat : Int) < 240
        · rw [show sizeR b = 3 by unfold sizeR; rw [if_neg (by omega), if_neg (by omega), if_pos (by omega)]]
          clear h3
          go_enter Tryd.func108, Tryd.ntmps108
          go_wp2
          go_ret
          exact ⟨rfl, rfl⟩
        · have h4' : (240 : Int) ≤ (b.toNat : Int) := by omega
          have h4d : decide ((b.toNat : Int) < 240) = false := by simpa using h4
          by_cases h5 : (b.toNat : Int) < 245
          · rw [show sizeR b = 4 by unfold sizeR; rw [if_neg (by omega), if_neg (by omega), if_neg (by omega), if_pos (by omega)]]
            clear h3 h4
            go_enter Tryd.func108, Tryd.ntmps108
            go_wp2
            go_ret
            exact ⟨rfl, rfl⟩
          · have h5d : decide ((b.toNat : Int) < 245) = false := by simpa using h5
            rw [show sizeR b = 0 by unfold sizeR; rw [if_neg (by omega), if_neg (by omega), if_neg (by omega), if_neg (by omega)]]
            clear h3 h4 h5
            go_enter Tryd.func108, Tryd.ntmps108
            go_wp2
            go_ret
            exact ⟨rfl, rfl⟩
    · have h2d : decide ((194 : Int) ≤ (b.toNat : Int)) = false := by simpa using h2
      have h2e : decide ((224 : Int) ≤ (b.toNat : Int)) = false := by simp; omega
      have h2f : decide ((240 : Int) ≤ (b.toNat : Int)) = false := by simp; omega
      rw [show sizeR b = 0 by unfold sizeR; rw [if_neg (by omega), if_neg (by omega), if_neg (by omega), if_neg (by omega)]]
      clear h2
      go_enter Tryd.func108, Tryd.ntmps108
      go_wp2
      go_ret
      exact ⟨rfl, rfl⟩
/-- A slice of octets just made, as a string. -/
theorem conv_new (w : World) (cs : List UInt8) (xs : Array Value) (n : Nat) (h : xs.toList = bv cs) (hn : cs.length = n) :
    (convert 78 9 (.slice (some ⟨w.heap.size, 0, none⟩) n n)).run Tryd.prog (w.alloc (.cells xs 5)) = .ok (.string ⟨cs.toArray⟩) (w.alloc (.cells xs 5)) := by
  refine conv_str 78 9 5 Tryd.underlying78 Tryd.underlying5 Tryd.underlying9 (c := n) (B := w.heap.size + 1) ?_
  refine ⟨by rw [bv_length]; omega, fun _ => ⟨_, rfl, by simp, fun j u hu => ?_⟩⟩
  have hadd : (⟨w.heap.size, 0, none⟩ : Addr).add j = ⟨w.heap.size, j, none⟩ := by unfold Addr.add; split <;> simp_all
  rw [hadd, (Blk.new w 5 xs).cell j]
  rw [← h] at hu
  simpa using hu
theorem bv_u8 (l : List Nat) (h : ∀ n ∈ l, n < 256) : bv (l.map u8) = l.map fun (n : Nat) => Value.int .u8 (n : Int) := by
  unfold bv
  rw [List.map_map]
  exact List.map_congr_left fun n hn => by simp [u8_toNat (h n hn)]
set_option maxHeartbeats 2000000 in
set_option maxRecDepth 100000 in
theorem encode_ok (c : Nat) (h : badC (c : Int) = false) (w : World) : Calls Tryd.prog 56 #[.int .i64 (c : Int)] w fun e w' => e = .returned (.tuple #[.string ⟨(encR c).toArray⟩, .int .i64 0]) ∧ Below w.heap.size w w' := by
  have hb : c ≤ 1114111 ∧ (c < 55296 ∨ 57343 < c) := by simp [badC] at h; omega
  obtain ⟨hb1, hb2⟩ := hb
  clear h
  have h0 : (0 : Int) ≤ (c : Int) := by omega
  have h1 : (c : Int) ≤ 1114111 := by omega
  have d1 : decide ((c : Int) < 0) = false := by simp
  have d2 : decide ((1114111 : Int) < (c : Int)) = false := by simp; omega
  clear hb1
  by_cases k1 : (c : Int) < 128
  · have hcv := conv_new w [u8 c] #[.int .u8 (c : Int)] 1 (by simp [bv, u8_toNat (show c < 256 by omega)]) rfl
    rw [show encR c = [u8 c] by unfold encR; rw [if_pos (by omega)]]
    have d3 : decide ((55296 : Int) ≤ (c : Int)) = false := by simp; omega
    clear hb2
    go_enter Tryd.func56, Tryd.ntmps56
    go_wp2_with fail
    go_ret2
    exact ⟨rfl, (Below.refl _ _).alloc (Nat.le_refl _) _⟩
  · have k1d : decide ((c : Int) < 128) = false := by simpa using k1
    by_cases k2 : (c : Int) < 2048
    · have hcv := conv_new w [u8 (192 + c / 64), u8 (128 + c % 64)] #[.int .u8 (192 + (c : Int) / 64), .int .u8 (128 + (c : Int) % 64)] 2 (by simp [bv, u8_toNat (show 192 + c / 64 < 256 by omega), u8_toNat (show 128 + c % 64 < 256 by omega)]) rfl
      rw [show encR c = [u8 (192 + c / 64), u8 (128 + c % 64)] by unfold encR; rw [if_neg (by omega), if_pos (by omega)]]
      have d3 : decide ((55296 : Int) ≤ (c : Int)) = false := by simp; omega
      have q1 : (c : Int) / 64 < 64 := by omega
      have q2 : (0 : Int) ≤ (c : Int) / 64 := by omega
      have q3 : (c : Int) % 64 < 64 := by omega
      have q4 : (0 : Int) ≤ (c : Int) % 64 := by omega
      clear hb2 k1
      go_enter Tryd.func56, Tryd.ntmps56
      go_wp2_with fail
      go_ret2
      exact ⟨rfl, (Below.refl _ _).alloc (Nat.le_refl _) _⟩
    · have k2d : decide ((c : Int) < 2048) = false := by simpa using k2
      by_cases k3 : (c : Int) < 65536
      · have hcv := conv_new w [u8 (224 + c / 4096), u8 (128 + c / 64 % 64), u8 (128 + c % 64)] #[.int .u8 (224 + (c : Int) / 4096), .int .u8 (128 + (c : Int) / 64 % 64), .int .u8 (128 + (c : Int) % 64)] 3 (by simp [bv, u8_toNat (show 224 + c / 4096 < 256 by omega), u8_toNat (show 128 + c / 64 % 64 < 256 by omega), u8_toNat (show 128 + c % 64 < 256 by omega)]) rfl
        rw [show encR c = [u8 (224 + c / 4096), u8 (128 + c / 64 % 64), u8 (128 + c % 64)] by unfold encR; rw [if_neg (by omega), if_neg (by omega), if_pos (by omega)]]
        have q1 : (c : Int) / 4096 < 16 := by omega
        have q2 : (0 : Int) ≤ (c : Int) / 4096 := by omega
        have q3 : (c : Int) % 64 < 64 := by omega
        have q4 : (0 : Int) ≤ (c : Int) % 64 := by omega
        have q5 : (0 : Int) ≤ (c : Int) / 64 := by omega
        have q6 : (c : Int) / 64 % 64 < 64 := by omega
        have q7 : (0 : Int) ≤ (c : Int) / 64 % 64 := by omega
        by_cases k4 : (c : Int) < 55296
        · have d3 : decide ((55296 : Int) ≤ (c : Int)) = false := by simp; omega
          clear hb2 k1 k2 k4
          go_enter Tryd.func56, Tryd.ntmps56
          go_wp2_with fail
          go_ret2
          exact ⟨rfl, (Below.refl _ _).alloc (Nat.le_refl _) _⟩
        · have d3 : decide ((55296 : Int) ≤ (c : Int)) = true := by simp; omega
          have d4 : decide ((c : Int) ≤ 57343) = false := by simp; omega
          clear hb2 k1 k2 k4
          go_enter Tryd.func56, Tryd.ntmps56
          go_wp2_with fail
          go_ret2
          exact ⟨rfl, (Below.refl _ _).alloc (Nat.le_refl _) _⟩
      · have k3d : decide ((c : Int) < 65536) = false := by simpa using k3
        have hcv := conv_new w [u8 (240 + c / 262144), u8 (128 + c / 4096 % 64), u8 (128 + c / 64 % 64), u8 (128 + c % 64)] #[.int .u8 (240 + (c : Int) / 262144), .int .u8 (128 + (c : Int) / 4096 % 64), .int .u8 (128 + (c : Int) / 64 % 64), .int .u8 (128 + (c : Int) % 64)] 4 (by simp [bv, u8_toNat (show 240 + c / 262144 < 256 by omega), u8_toNat (show 128 + c / 4096 % 64 < 256 by omega), u8_toNat (show 128 + c / 64 % 64 < 256 by omega), u8_toNat (show 128 + c % 64 < 256 by omega)]) rfl
        rw [show encR c = [u8 (240 + c / 262144), u8 (128 + c / 4096 % 64), u8 (128 + c / 64 % 64), u8 (128 + c % 64)] by unfold encR; rw [if_neg (by omega), if_neg (by omega), if_neg (by omega)]]
        have q1 : (c : Int) / 262144 < 8 := by omega
        have q2 : (0 : Int) ≤ (c : Int) / 262144 := by omega
        have q3 : (c : Int) % 64 < 64 := by omega
        have q4 : (0 : Int) ≤ (c : Int) % 64 := by omega
        have q5 : (0 : Int) ≤ (c : Int) / 64 := by omega
        have q6 : (c : Int) / 64 % 64 < 64 := by omega
        have q7 : (0 : Int) ≤ (c : Int) / 64 % 64 := by omega
        have q8 : (0 : Int) ≤ (c : Int) / 4096 := by omega
        have q9 : (c : Int) / 4096 % 64 < 64 := by omega
        have q10 : (0 : Int) ≤ (c : Int) / 4096 % 64 := by omega
        have d3 : decide ((55296 : Int) ≤ (c : Int)) = true := by simp; omega
        have d4 : decide ((c : Int) ≤ 57343) = false := by simp; omega
        clear hb2 k1 k2 k3
        go_enter Tryd.func56, Tryd.ntmps56
        go_wp2_with fail
        go_ret2
        exact ⟨rfl, (Below.refl _ _).alloc (Nat.le_refl _) _⟩
set_option maxHeartbeats 1000000 in
set_option maxRecDepth 100000 in
theorem encode_bad (c : Int) (h : badC c = true) (w : World) : Calls Tryd.prog 56 #[.int .i64 c] w fun e w' => e = .returned (.tuple #[.string ⟨#[]⟩, .int .i64 4]) ∧ w = w' := by
  have hb : c < 0 ∨ 1114111 < c ∨ (55296 ≤ c ∧ c ≤ 57343) := by simp [badC] at h; omega
  clear h
  by_cases k1 : c < 0
  · clear hb
    go_enter Tryd.func56, Tryd.ntmps56
    go_wp2_with fail
    go_ret2
    exact ⟨rfl, rfl⟩
  · have d1 : decide (c < 0) = false := by simpa using k1
    by_cases k2 : 1114111 < c
    · have d2 : decide ((1114111 : Int) < c) = true := by simpa using k2
      clear hb k1 k2
      go_enter Tryd.func56, Tryd.ntmps56
      go_wp2_with fail
      go_ret2
      exact ⟨rfl, rfl⟩
    · have d2 : decide ((1114111 : Int) < c) = false := by simpa using k2
      have d3 : decide ((55296 : Int) ≤ c) = true := by simp; omega
      have d4 : decide (c ≤ 57343) = true := by simp; omega
      clear hb k1 k2
      go_enter Tryd.func56, Tryd.ntmps56
      go_wp2_with fail
      go_ret2
      exact ⟨rfl, rfl⟩
end Go.Proofs.YtdnmgpidfjkiaaaDoor

namespace Go.Proofs.YtdnmgpidfjkiaaaDoor
open Go.RowKit
set_option linter.unusedVariables false
set_option linter.unusedSimpArgs false

theorem and_mask (m : Nat) (hm : m = 127 ∨ m = 31 ∨ m = 15 ∨ m = 7) (b : UInt8) : bits BinOp.and IntKind.i64 (b.toNat : Int) (m : Int) = ((b.toNat % (m + 1) : Nat) : Int) := by
  have := allBytes (fun b => bits BinOp.and IntKind.i64 (b.toNat : Int) 127 == ((b.toNat % 128 : Nat) : Int) && bits BinOp.and IntKind.i64 (b.toNat : Int) 31 == ((b.toNat % 32 : Nat) : Int) && bits BinOp.and IntKind.i64 (b.toNat : Int) 15 == ((b.toNat % 16 : Nat) : Int) && bits BinOp.and IntKind.i64 (b.toNat : Int) 7 == ((b.toNat % 8 : Nat) : Int)) (by decide +kernel) b
  simp only [Bool.and_eq_true, beq_iff_eq] at this
  obtain ⟨⟨⟨h1, h2⟩, h3⟩, h4⟩ := this
  rcases hm with rfl | rfl | rfl | rfl
  · exact h1
  · exact h2
  · exact h3
  · exact h4
/-- What Decode says of a first octet and its k - 1 followers. -/
def decN (n m : Nat) (b : UInt8) (xs : List UInt8) : Int × Nat :=
  if xs.all contB = false then (-1, 1)
  else if badC (accR m xs : Nat) = false ∧ encR (accR m xs) = b :: xs then ((accR m xs : Nat), n) else (-1, 1)
theorem decR_decN (b : UInt8) (r : List UInt8) (n m : Nat) (hn : sizeR b = n) (h1 : 1 ≤ n) (h2 : n ≤ r.length + 1) (hm : maskR n = m) : decR (b :: r) = decN n (b.toNat % m) b (r.take (n - 1)) := by
  rw [decR_cons, hn, hm, if_neg (by omega)]; rfl
set_option maxHeartbeats 2000000 in
set_option maxRecDepth 100000 in
theorem decode_short (l : List UInt8) (b : UInt8) (r : List UInt8) (hl : l = b :: r) (h : sizeR b = 0 ∨ r.length + 1 < sizeR b) (w : World) (hz : l.length ≤ 4611686018427387903) :
    Calls Tryd.prog 80 #[.string ⟨l.toArray⟩] w fun e w' => e = .returned (.tuple #[.int .i64 (-1), .int .i64 1]) ∧ Below w.heap.size w w' := by
  have hlen : l.length = r.length + 1 := by rw [hl]; rfl
  have hp : 0 < (⟨l.toArray⟩ : ByteArray).size := by rw [mk_size]; omega
  have hb : (⟨l.toArray⟩ : ByteArray)[0]'hp = b := by subst hl; rfl
  have he : l.isEmpty = false := by rw [hl]; rfl
  have cZ := hide (sizeR_any b w)
  have hs4 := sizeR_le b
  have hlp : 0 < (l.length : Int) := by omega
  by_cases h0 : sizeR b = 0
  · rw [h0] at cZ
    have H := hide (And.intro hl (And.intro h hlen))
    clear hl h hlen h0
    go_enter Tryd.func80, Tryd.ntmps80
    go_wp2_with (go_at_call 108; refine (Hid.out cZ).mono ?_; rintro e w1 ⟨rfl, rfl⟩)
    go_ret2
    exact ⟨rfl, Below.refl _ _⟩
  · have h2 : (l.length : Int) < (sizeR b : Int) := by omega
    have h3 : ((sizeR b : Int) == 0) = false := by simp; omega
    generalize sizeR b = n at cZ h2 h3 hs4
    have H := hide (And.intro hl (And.intro h hlen))
    clear hl h hlen h0
    go_enter Tryd.func80, Tryd.ntmps80
    go_wp2_with (go_at_call 108; refine (Hid.out cZ).mono ?_; rintro e w1 ⟨rfl, rfl⟩)
    go_ret2
    exact ⟨rfl, Below.refl _ _⟩
set_option maxHeartbeats 8000000 in
set_option maxRecDepth 100000 in
theorem decode_long (n m : Nat) (hn : (n = 1 ∧ m = 128) ∨ (n = 2 ∧ m = 32) ∨ (n = 3 ∧ m = 16) ∨ (n = 4 ∧ m = 8)) (l : List UInt8) (b : UInt8) (r : List UInt8) (hl : l = b :: r) (hsz : sizeR b = n) (hr : n ≤ r.length + 1) (w : World) (hz : l.length ≤ 4611686018427387903) :
    Calls Tryd.prog 80 #[.string ⟨l.toArray⟩] w fun e w' => e = .returned (.tuple #[.int .i64 (decN n (b.toNat % m) b (r.take (n - 1))).1, .int .i64 ((decN n (b.toNat % m) b (r.take (n - 1))).2 : Int)]) ∧ Below w.heap.size w w' := by
  have hlen : l.length = r.length + 1 := by rw [hl]; rfl
  have hp : 0 < (⟨l.toArray⟩ : ByteArray).size := by rw [mk_size]; omega
  have hb : (⟨l.toArray⟩ : ByteArray)[0]'hp = b := by subst hl; rfl
  have he : l.isEmpty = false := by rw [hl]; rfl
  have cZ := hide (sizeR_any b w)
  rw [hsz] at cZ
  have hlp : 0 < (l.length : Int) := by omega
  have hln : (n : Int) ≤ (l.length : Int) := by omega
  have hand := and_mask (m - 1) (by omega) b
  rw [show m - 1 + 1 = m by omega] at hand
  have hm0 : b.toNat % m < 128 := by have : b.toNat % m < m := Nat.mod_lt _ (by omega); omega
  generalize hM : b.toNat % m = M at hand hm0 ⊢
  have hlr : ∀ j (hj : j + 1 < (⟨l.toArray⟩ : ByteArray).size), ∃ x, (⟨l.toArray⟩ : ByteArray)[j + 1]'hj = x ∧ r[j]? = some x := by
    intro j hj
    refine ⟨_, rfl, ?_⟩
    subst hl
    rw [mk_size] at hj
    simp only [List.length_cons] at hj
    rw [List.getElem?_eq_getElem (by omega)]
    rfl
  have HLR := hide hlr
  have H := hide (And.intro hl (And.intro hsz (And.intro hr (And.intro hlen hM))))
  clear hl hsz hr hlen hM hlr
  rcases hn with ⟨rfl, rfl⟩ | ⟨rfl, rfl⟩ | ⟨rfl, rfl⟩ | ⟨rfl, rfl⟩
  · have hand : bits BinOp.and IntKind.i64 (b.toNat : Int) 127 = (M : Int) := hand
    have hb256 : (b.toNat : Int) < 256 := by have := b.toNat_lt; omega
    have hb000 : (0 : Int) ≤ (b.toNat : Int) := by omega
    have hln' : (1 : Int) ≤ (l.length : Int) := by simpa using hln
    have hB0 := (Below.refl w.heap.size w).alloc (Nat.le_refl _) (.cells #[.int .i64 0, .int .i64 127, .int .i64 31, .int .i64 15, .int .i64 7] 3)
    go_enter Tryd.func80, Tryd.ntmps80
    go_wp2_with (go_at_call 108; refine (Hid.out cZ).mono ?_; rintro e w1 ⟨rfl, rfl⟩)
    go_quiet (fail)
    have hB := below_drewN hB0 nq
    generalize hW : ((w.alloc (.cells #[.int .i64 0, .int .i64 127, .int .i64 31, .int .i64 15, .int .i64 7] 3)).drewN nq) = W at hB ⊢
    clear hW hB0
    go_wp2_with fail
    go_loop [6, 7] (fun cv i => ∃ j : Nat, i = .int .i64 ((j : Int) + 1) ∧ j + 1 ≤ 1 ∧ cv = .int .i64 (accR M (r.take j) : Nat) ∧ Hid ((r.take j).all contB = true)) (fun _ i => 1 - (intOf i).toNat)
    case atStart => exact ⟨0, by simp, by omega, by simp [accR], rfl⟩
    case round =>
      obtain ⟨j, rfl, hj, rfl, hall⟩ := hrel
      have hbd := accR_bd M hm0 (r.take j) (by rw [List.length_take]; omega) hall.out
      by_cases hlt : j + 1 < 1
      · omega
      · have hj2 : j = 1 - 1 := by omega
        subst hj2
        have hex : ((⟨l.toArray⟩ : ByteArray).extract 0 1).toList = b :: r.take (1 - 1) := by
          rw [Lib.extract_toList, H.out.1]; simp
        have HEX := hide hex
        clear hex
        have hdn : decN 1 M b (r.take (1 - 1)) = show Int × Nat from if badC (accR M (r.take (1 - 1)) : Nat) = false ∧ encR (accR M (r.take (1 - 1))) = b :: r.take (1 - 1) then ((accR M (r.take (1 - 1)) : Nat), 1) else (-1, 1) := by
          unfold decN
          rw [if_neg (by rw [hall.out]; decide)]
        have HD := hide hdn
        clear hdn hall
        generalize accR M (r.take (1 - 1)) = C at hbd HD ⊢
        rcases Bool.eq_false_or_eq_true (badC (C : Int)) with hc | hc
        · have HF := hide (show decN 1 M b (r.take (1 - 1)) = (-1, 1) by rw [HD.out, if_neg (by rw [hc]; simp)])
          have cE := hide (fun w => encode_bad (C : Int) hc w)
          clear hc
          go_wp2_with (go_at_call 56; refine (cE.out _).mono ?_; rintro e w2 ⟨rfl, rfl⟩)
          go_ret2
          exact ⟨by rw [HF.out]; rfl, hB⟩
        · have cE := hide (fun w => encode_ok C hc w)
          by_cases heq : encR C = b :: r.take (1 - 1)
          · have HF := hide (show decN 1 M b (r.take (1 - 1)) = ((C : Int), 1) by rw [HD.out, if_pos ⟨hc, heq⟩])
            have hq : (encR C == ((⟨l.toArray⟩ : ByteArray).extract 0 1).toList) = true := by rw [HEX.out, heq]; simp
            have HQ := hide (And.intro hc heq)
            clear hc heq
            go_wp2_with (go_at_call 56; refine (cE.out _).mono ?_; rintro e w2 ⟨rfl, hb2⟩)
            go_ret2
            exact ⟨by rw [HF.out]; rfl, hB.trans (hb2.mono hB.size)⟩
          · have HF := hide (show decN 1 M b (r.take (1 - 1)) = (-1, 1) by rw [HD.out, if_neg (by rintro ⟨_, h⟩; exact heq h)])
            have hq : (encR C == ((⟨l.toArray⟩ : ByteArray).extract 0 1).toList) = false := by rw [HEX.out]; simpa using heq
            have HQ := hide (And.intro hc heq)
            clear hc heq
            go_wp2_with (go_at_call 56; refine (cE.out _).mono ?_; rintro e w2 ⟨rfl, hb2⟩)
            go_ret2
            exact ⟨by rw [HF.out]; rfl, hB.trans (hb2.mono hB.size)⟩
  · have hand : bits BinOp.and IntKind.i64 (b.toNat : Int) 31 = (M : Int) := hand
    have hb256 : (b.toNat : Int) < 256 := by have := b.toNat_lt; omega
    have hb000 : (0 : Int) ≤ (b.toNat : Int) := by omega
    have hln' : (2 : Int) ≤ (l.length : Int) := by simpa using hln
    have hB0 := (Below.refl w.heap.size w).alloc (Nat.le_refl _) (.cells #[.int .i64 0, .int .i64 127, .int .i64 31, .int .i64 15, .int .i64 7] 3)
    go_enter Tryd.func80, Tryd.ntmps80
    go_wp2_with (go_at_call 108; refine (Hid.out cZ).mono ?_; rintro e w1 ⟨rfl, rfl⟩)
    go_quiet (fail)
    have hB := below_drewN hB0 nq
    generalize hW : ((w.alloc (.cells #[.int .i64 0, .int .i64 127, .int .i64 31, .int .i64 15, .int .i64 7] 3)).drewN nq) = W at hB ⊢
    clear hW hB0
    go_wp2_with fail
    go_loop [6, 7] (fun cv i => ∃ j : Nat, i = .int .i64 ((j : Int) + 1) ∧ j + 1 ≤ 2 ∧ cv = .int .i64 (accR M (r.take j) : Nat) ∧ Hid ((r.take j).all contB = true)) (fun _ i => 2 - (intOf i).toNat)
    case atStart => exact ⟨0, by simp, by omega, by simp [accR], rfl⟩
    case round =>
      obtain ⟨j, rfl, hj, rfl, hall⟩ := hrel
      have hbd := accR_bd M hm0 (r.take j) (by rw [List.length_take]; omega) hall.out
      by_cases hlt : j + 1 < 2
      · obtain ⟨x, hx, hrx⟩ := HLR.out j (by rw [mk_size]; omega)
        have hnext := accR_snoc M (r.take j) x
        have htk : r.take (j + 1) = r.take j ++ [x] := by rw [List.take_add_one, hrx]; rfl
        rw [← htk] at hnext
        have hjl : ((j : Int) + 1) < (l.length : Int) := by omega
        have hj0 : (0 : Int) ≤ (j : Int) + 1 := by omega
        have hjt : ((j : Int) + 1).toNat = j + 1 := by omega
        rcases Bool.eq_false_or_eq_true (contB x) with hc | hc
        · have hc1 : (128 : Int) ≤ (x.toNat : Int) ∧ (x.toNat : Int) ≤ 191 := by simp [contB] at hc; omega
          obtain ⟨hc1, hc2⟩ := hc1
          have hall2 := hide (show (r.take (j + 1)).all contB = true by rw [htk, List.all_append, hall.out]; simp [hc])
          have hnx : ((accR M (r.take (j + 1)) : Nat) : Int) = (accR M (r.take j) : Nat) * 64 + (x.toNat : Int) - 128 := by rw [hnext]; omega
          have HNX := hide hnx
          have HT := hide (And.intro htk hrx)
          clear hnext htk hrx hc hnx
          generalize accR M (r.take j) = C at hbd HNX ⊢
          have hC0 : (0 : Int) ≤ (C : Int) := by omega
          have hC1 : (C : Int) < 33554432 := by omega
          have d1 : decide ((x.toNat : Int) < 128) = false := by simp; omega
          have d2 : decide ((191 : Int) < (x.toNat : Int)) = false := by simp; omega
          have hx0 : (x.toNat : Int) < 256 := by have := x.toNat_lt; omega
          have w1 : IntKind.i64.wrap ((C : Int) * 64) = (C : Int) * 64 := IntWalk.i64_in _ (by omega)
          have w2 : IntKind.i64.wrap ((C : Int) * 64 + (x.toNat : Int)) = (C : Int) * 64 + (x.toNat : Int) := IntWalk.i64_in _ (by omega)
          have w3 : IntKind.i64.wrap ((C : Int) * 64 + (x.toNat : Int) - 128) = (C : Int) * 64 + (x.toNat : Int) - 128 := IntWalk.i64_in _ (by omega)
          clear hbd hj0 hjt hC1
          go_wp2_with fail
          clear w1 w2 w3
          go_round
          case rel => exact ⟨j + 1, by go_num, by omega, by rw [HNX.out], hall2⟩
          case measure => simp [intOf]; omega
        · have hdn : decN 2 M b (r.take (2 - 1)) = (-1, 1) := by
            unfold decN
            rw [if_pos]
            rw [List.all_eq_false]
            refine ⟨x, ?_, by simp [hc]⟩
            rw [List.mem_iff_getElem?]
            exact ⟨j, by rw [List.getElem?_take, if_pos (by omega)]; exact hrx⟩
          have HF := hide hdn
          have HT := hide (And.intro htk hrx)
          clear hnext htk hrx hdn hbd
          by_cases hc1 : (x.toNat : Int) < 128
          · clear hc
            go_wp2_with fail
            go_ret2
            exact ⟨by rw [HF.out]; rfl, hB⟩
          · have hc2 : (191 : Int) < (x.toNat : Int) := by simp [contB] at hc; omega
            have d1 : decide ((x.toNat : Int) < 128) = false := by simpa using hc1
            clear hc hc1
            go_wp2_with fail
            go_ret2
            exact ⟨by rw [HF.out]; rfl, hB⟩
      · have hj2 : j = 2 - 1 := by omega
        subst hj2
        have hex : ((⟨l.toArray⟩ : ByteArray).extract 0 2).toList = b :: r.take (2 - 1) := by
          rw [Lib.extract_toList, H.out.1]; simp
        have HEX := hide hex
        clear hex
        have hdn : decN 2 M b (r.take (2 - 1)) = show Int × Nat from if badC (accR M (r.take (2 - 1)) : Nat) = false ∧ encR (accR M (r.take (2 - 1))) = b :: r.take (2 - 1) then ((accR M (r.take (2 - 1)) : Nat), 2) else (-1, 1) := by
          unfold decN
          rw [if_neg (by rw [hall.out]; decide)]
        have HD := hide hdn
        clear hdn hall
        generalize accR M (r.take (2 - 1)) = C at hbd HD ⊢
        rcases Bool.eq_false_or_eq_true (badC (C : Int)) with hc | hc
        · have HF := hide (show decN 2 M b (r.take (2 - 1)) = (-1, 1) by rw [HD.out, if_neg (by rw [hc]; simp)])
          have cE := hide (fun w => encode_bad (C : Int) hc w)
          clear hc
          go_wp2_with (go_at_call 56; refine (cE.out _).mono ?_; rintro e w2 ⟨rfl, rfl⟩)
          go_ret2
          exact ⟨by rw [HF.out]; rfl, hB⟩
        · have cE := hide (fun w => encode_ok C hc w)
          by_cases heq : encR C = b :: r.take (2 - 1)
          · have HF := hide (show decN 2 M b (r.take (2 - 1)) = ((C : Int), 2) by rw [HD.out, if_pos ⟨hc, heq⟩])
            have hq : (encR C == ((⟨l.toArray⟩ : ByteArray).extract 0 2).toList) = true := by rw [HEX.out, heq]; simp
            have HQ := hide (And.intro hc heq)
            clear hc heq
            go_wp2_with (go_at_call 56; refine (cE.out _).mono ?_; rintro e w2 ⟨rfl, hb2⟩)
            go_ret2
            exact ⟨by rw [HF.out]; rfl, hB.trans (hb2.mono hB.size)⟩
          · have HF := hide (show decN 2 M b (r.take (2 - 1)) = (-1, 1) by rw [HD.out, if_neg (by rintro ⟨_, h⟩; exact heq h)])
            have hq : (encR C == ((⟨l.toArray⟩ : ByteArray).extract 0 2).toList) = false := by rw [HEX.out]; simpa using heq
            have HQ := hide (And.intro hc heq)
            clear hc heq
            go_wp2_with (go_at_call 56; refine (cE.out _).mono ?_; rintro e w2 ⟨rfl, hb2⟩)
            go_ret2
            exact ⟨by rw [HF.out]; rfl, hB.trans (hb2.mono hB.size)⟩
  · have hand : bits BinOp.and IntKind.i64 (b.toNat : Int) 15 = (M : Int) := hand
    have hb256 : (b.toNat : Int) < 256 := by have := b.toNat_lt; omega
    have hb000 : (0 : Int) ≤ (b.toNat : Int) := by omega
    have hln' : (3 : Int) ≤ (l.length : Int) := by simpa using hln
    have hB0 := (Below.refl w.heap.size w).alloc (Nat.le_refl _) (.cells #[.int .i64 0, .int .i64 127, .int .i64 31, .int .i64 15, .int .i64 7] 3)
    go_enter Tryd.func80, Tryd.ntmps80
    go_wp2_with (go_at_call 108; refine (Hid.out cZ).mono ?_; rintro e w1 ⟨rfl, rfl⟩)
    go_quiet (fail)
    have hB := below_drewN hB0 nq
    generalize hW : ((w.alloc (.cells #[.int .i64 0, .int .i64 127, .int .i64 31, .int .i64 15, .int .i64 7] 3)).drewN nq) = W at hB ⊢
    clear hW hB0
    go_wp2_with fail
    go_loop [6, 7] (fun cv i => ∃ j : Nat, i = .int .i64 ((j : Int) + 1) ∧ j + 1 ≤ 3 ∧ cv = .int .i64 (accR M (r.take j) : Nat) ∧ Hid ((r.take j).all contB = true)) (fun _ i => 3 - (intOf i).toNat)
    case atStart => exact ⟨0, by simp, by omega, by simp [accR], rfl⟩
    case round =>
      obtain ⟨j, rfl, hj, rfl, hall⟩ := hrel
      have hbd := accR_bd M hm0 (r.take j) (by rw [List.length_take]; omega) hall.out
      by_cases hlt : j + 1 < 3
      · obtain ⟨x, hx, hrx⟩ := HLR.out j (by rw [mk_size]; omega)
        have hnext := accR_snoc M (r.take j) x
        have htk : r.take (j + 1) = r.take j ++ [x] := by rw [List.take_add_one, hrx]; rfl
        rw [← htk] at hnext
        have hjl : ((j : Int) + 1) < (l.length : Int) := by omega
        have hj0 : (0 : Int) ≤ (j : Int) + 1 := by omega
        have hjt : ((j : Int) + 1).toNat = j + 1 := by omega
        rcases Bool.eq_false_or_eq_true (contB x) with hc | hc
        · have hc1 : (128 : Int) ≤ (x.toNat : Int) ∧ (x.toNat : Int) ≤ 191 := by simp [contB] at hc; omega
          obtain ⟨hc1, hc2⟩ := hc1
          have hall2 := hide (show (r.take (j + 1)).all contB = true by rw [htk, List.all_append, hall.out]; simp [hc])
          have hnx : ((accR M (r.take (j + 1)) : Nat) : Int) = (accR M (r.take j) : Nat) * 64 + (x.toNat : Int) - 128 := by rw [hnext]; omega
          have HNX := hide hnx
          have HT := hide (And.intro htk hrx)
          clear hnext htk hrx hc hnx
          generalize accR M (r.take j) = C at hbd HNX ⊢
          have hC0 : (0 : Int) ≤ (C : Int) := by omega
          have hC1 : (C : Int) < 33554432 := by omega
          have d1 : decide ((x.toNat : Int) < 128) = false := by simp; omega
          have d2 : decide ((191 : Int) < (x.toNat : Int)) = false := by simp; omega
          have hx0 : (x.toNat : Int) < 256 := by have := x.toNat_lt; omega
          have w1 : IntKind.i64.wrap ((C : Int) * 64) = (C : Int) * 64 := IntWalk.i64_in _ (by omega)
          have w2 : IntKind.i64.wrap ((C : Int) * 64 + (x.toNat : Int)) = (C : Int) * 64 + (x.toNat : Int) := IntWalk.i64_in _ (by omega)
          have w3 : IntKind.i64.wrap ((C : Int) * 64 + (x.toNat : Int) - 128) = (C : Int) * 64 + (x.toNat : Int) - 128 := IntWalk.i64_in _ (by omega)
          clear hbd hj0 hjt hC1
          go_wp2_with fail
          clear w1 w2 w3
          go_round
          case rel => exact ⟨j + 1, by go_num, by omega, by rw [HNX.out], hall2⟩
          case measure => simp [intOf]; omega
        · have hdn : decN 3 M b (r.take (3 - 1)) = (-1, 1) := by
            unfold decN
            rw [if_pos]
            rw [List.all_eq_false]
            refine ⟨x, ?_, by simp [hc]⟩
            rw [List.mem_iff_getElem?]
            exact ⟨j, by rw [List.getElem?_take, if_pos (by omega)]; exact hrx⟩
          have HF := hide hdn
          have HT := hide (And.intro htk hrx)
          clear hnext htk hrx hdn hbd
          by_cases hc1 : (x.toNat : Int) < 128
          · clear hc
            go_wp2_with fail
            go_ret2
            exact ⟨by rw [HF.out]; rfl, hB⟩
          · have hc2 : (191 : Int) < (x.toNat : Int) := by simp [contB] at hc; omega
            have d1 : decide ((x.toNat : Int) < 128) = false := by simpa using hc1
            clear hc hc1
            go_wp2_with fail
            go_ret2
            exact ⟨by rw [HF.out]; rfl, hB⟩
      · have hj2 : j = 3 - 1 := by omega
        subst hj2
        have hex : ((⟨l.toArray⟩ : ByteArray).extract 0 3).toList = b :: r.take (3 - 1) := by
          rw [Lib.extract_toList, H.out.1]; simp
        have HEX := hide hex
        clear hex
        have hdn : decN 3 M b (r.take (3 - 1)) = show Int × Nat from if badC (accR M (r.take (3 - 1)) : Nat) = false ∧ encR (accR M (r.take (3 - 1))) = b :: r.take (3 - 1) then ((accR M (r.take (3 - 1)) : Nat), 3) else (-1, 1) := by
          unfold decN
          rw [if_neg (by rw [hall.out]; decide)]
        have HD := hide hdn
        clear hdn hall
        generalize accR M (r.take (3 - 1)) = C at hbd HD ⊢
        rcases Bool.eq_false_or_eq_true (badC (C : Int)) with hc | hc
        · have HF := hide (show decN 3 M b (r.take (3 - 1)) = (-1, 1) by rw [HD.out, if_neg (by rw [hc]; simp)])
          have cE := hide (fun w => encode_bad (C : Int) hc w)
          clear hc
          go_wp2_with (go_at_call 56; refine (cE.out _).mono ?_; rintro e w2 ⟨rfl, rfl⟩)
          go_ret2
          exact ⟨by rw [HF.out]; rfl, hB⟩
        · have cE := hide (fun w => encode_ok C hc w)
          by_cases heq : encR C = b :: r.take (3 - 1)
          · have HF := hide (show decN 3 M b (r.take (3 - 1)) = ((C : Int), 3) by rw [HD.out, if_pos ⟨hc, heq⟩])
            have hq : (encR C == ((⟨l.toArray⟩ : ByteArray).extract 0 3).toList) = true := by rw [HEX.out, heq]; simp
            have HQ := hide (And.intro hc heq)
            clear hc heq
            go_wp2_with (go_at_call 56; refine (cE.out _).mono ?_; rintro e w2 ⟨rfl, hb2⟩)
            go_ret2
            exact ⟨by rw [HF.out]; rfl, hB.trans (hb2.mono hB.size)⟩
          · have HF := hide (show decN 3 M b (r.take (3 - 1)) = (-1, 1) by rw [HD.out, if_neg (by rintro ⟨_, h⟩; exact heq h)])
            have hq : (encR C == ((⟨l.toArray⟩ : ByteArray).extract 0 3).toList) = false := by rw [HEX.out]; simpa using heq
            have HQ := hide (And.intro hc heq)
            clear hc heq
            go_wp2_with (go_at_call 56; refine (cE.out _).mono ?_; rintro e w2 ⟨rfl, hb2⟩)
            go_ret2
            exact ⟨by rw [HF.out]; rfl, hB.trans (hb2.mono hB.size)⟩
  · have hand : bits BinOp.and IntKind.i64 (b.toNat : Int) 7 = (M : Int) := hand
    have hb256 : (b.toNat : Int) < 256 := by have := b.toNat_lt; omega
    have hb000 : (0 : Int) ≤ (b.toNat : Int) := by omega
    have hln' : (4 : Int) ≤ (l.length : Int) := by simpa using hln
    have hB0 := (Below.refl w.heap.size w).alloc (Nat.le_refl _) (.cells #[.int .i64 0, .int .i64 127, .int .i64 31, .int .i64 15, .int .i64 7] 3)
    go_enter Tryd.func80, Tryd.ntmps80
    go_wp2_with (go_at_call 108; refine (Hid.out cZ).mono ?_; rintro e w1 ⟨rfl, rfl⟩)
    go_quiet (fail)
    have hB := below_drewN hB0 nq
    generalize hW : ((w.alloc (.cells #[.int .i64 0, .int .i64 127, .int .i64 31, .int .i64 15, .int .i64 7] 3)).drewN nq) = W at hB ⊢
    clear hW hB0
    go_wp2_with fail
    go_loop [6, 7] (fun cv i => ∃ j : Nat, i = .int .i64 ((j : Int) + 1) ∧ j + 1 ≤ 4 ∧ cv = .int .i64 (accR M (r.take j) : Nat) ∧ Hid ((r.take j).all contB = true)) (fun _ i => 4 - (intOf i).toNat)
    case atStart => exact ⟨0, by simp, by omega, by simp [accR], rfl⟩
    case round =>
      obtain ⟨j, rfl, hj, rfl, hall⟩ := hrel
      have hbd := accR_bd M hm0 (r.take j) (by rw [List.length_take]; omega) hall.out
      by_cases hlt : j + 1 < 4
      · obtain ⟨x, hx, hrx⟩ := HLR.out j (by rw [mk_size]; omega)
        have hnext := accR_snoc M (r.take j) x
        have htk : r.take (j + 1) = r.take j ++ [x] := by rw [List.take_add_one, hrx]; rfl
        rw [← htk] at hnext
        have hjl : ((j : Int) + 1) < (l.length : Int) := by omega
        have hj0 : (0 : Int) ≤ (j : Int) + 1 := by omega
        have hjt : ((j : Int) + 1).toNat = j + 1 := by omega
        rcases Bool.eq_false_or_eq_true (contB x) with hc | hc
        · have hc1 : (128 : Int) ≤ (x.toNat : Int) ∧ (x.toNat : Int) ≤ 191 := by simp [contB] at hc; omega
          obtain ⟨hc1, hc2⟩ := hc1
          have hall2 := hide (show (r.take (j + 1)).all contB = true by rw [htk, List.all_append, hall.out]; simp [hc])
          have hnx : ((accR M (r.take (j + 1)) : Nat) : Int) = (accR M (r.take j) : Nat) * 64 + (x.toNat : Int) - 128 := by rw [hnext]; omega
          have HNX := hide hnx
          have HT := hide (And.intro htk hrx)
          clear hnext htk hrx hc hnx
          generalize accR M (r.take j) = C at hbd HNX ⊢
          have hC0 : (0 : Int) ≤ (C : Int) := by omega
          have hC1 : (C : Int) < 33554432 := by omega
          have d1 : decide ((x.toNat : Int) < 128) = false := by simp; omega
          have d2 : decide ((191 : Int) < (x.toNat : Int)) = false := by simp; omega
          have hx0 : (x.toNat : Int) < 256 := by have := x.toNat_lt; omega
          have w1 : IntKind.i64.wrap ((C : Int) * 64) = (C : Int) * 64 := IntWalk.i64_in _ (by omega)
          have w2 : IntKind.i64.wrap ((C : Int) * 64 + (x.toNat : Int)) = (C : Int) * 64 + (x.toNat : Int) := IntWalk.i64_in _ (by omega)
          have w3 : IntKind.i64.wrap ((C : Int) * 64 + (x.toNat : Int) - 128) = (C : Int) * 64 + (x.toNat : Int) - 128 := IntWalk.i64_in _ (by omega)
          clear hbd hj0 hjt hC1
          go_wp2_with fail
          clear w1 w2 w3
          go_round
          case rel => exact ⟨j + 1, by go_num, by omega, by rw [HNX.out], hall2⟩
          case measure => simp [intOf]; omega
        · have hdn : decN 4 M b (r.take (4 - 1)) = (-1, 1) := by
            unfold decN
            rw [if_pos]
            rw [List.all_eq_false]
            refine ⟨x, ?_, by simp [hc]⟩
            rw [List.mem_iff_getElem?]
            exact ⟨j, by rw [List.getElem?_take, if_pos (by omega)]; exact hrx⟩
          have HF := hide hdn
          have HT := hide (And.intro htk hrx)
          clear hnext htk hrx hdn hbd
          by_cases hc1 : (x.toNat : Int) < 128
          · clear hc
            go_wp2_with fail
            go_ret2
            exact ⟨by rw [HF.out]; rfl, hB⟩
          · have hc2 : (191 : Int) < (x.toNat : Int) := by simp [contB] at hc; omega
            have d1 : decide ((x.toNat : Int) < 128) = false := by simpa using hc1
            clear hc hc1
            go_wp2_with fail
            go_ret2
            exact ⟨by rw [HF.out]; rfl, hB⟩
      · have hj2 : j = 4 - 1 := by omega
        subst hj2
        have hex : ((⟨l.toArray⟩ : ByteArray).extract 0 4).toList = b :: r.take (4 - 1) := by
          rw [Lib.extract_toList, H.out.1]; simp
        have HEX := hide hex
        clear hex
        have hdn : decN 4 M b (r.take (4 - 1)) = show Int × Nat from if badC (accR M (r.take (4 - 1)) : Nat) = false ∧ encR (accR M (r.take (4 - 1))) = b :: r.take (4 - 1) then ((accR M (r.take (4 - 1)) : Nat), 4) else (-1, 1) := by
          unfold decN
          rw [if_neg (by rw [hall.out]; decide)]
        have HD := hide hdn
        clear hdn hall
        generalize accR M (r.take (4 - 1)) = C at hbd HD ⊢
        rcases Bool.eq_false_or_eq_true (badC (C : Int)) with hc | hc
        · have HF := hide (show decN 4 M b (r.take (4 - 1)) = (-1, 1) by rw [HD.out, if_neg (by rw [hc]; simp)])
          have cE := hide (fun w => encode_bad (C : Int) hc w)
          clear hc
          go_wp2_with (go_at_call 56; refine (cE.out _).mono ?_; rintro e w2 ⟨rfl, rfl⟩)
          go_ret2
          exact ⟨by rw [HF.out]; rfl, hB⟩
        · have cE := hide (fun w => encode_ok C hc w)
          by_cases heq : encR C = b :: r.take (4 - 1)
          · have HF := hide (show decN 4 M b (r.take (4 - 1)) = ((C : Int), 4) by rw [HD.out, if_pos ⟨hc, heq⟩])
            have hq : (encR C == ((⟨l.toArray⟩ : ByteArray).extract 0 4).toList) = true := by rw [HEX.out, heq]; simp
            have HQ := hide (And.intro hc heq)
            clear hc heq
            go_wp2_with (go_at_call 56; refine (cE.out _).mono ?_; rintro e w2 ⟨rfl, hb2⟩)
            go_ret2
            exact ⟨by rw [HF.out]; rfl, hB.trans (hb2.mono hB.size)⟩
          · have HF := hide (show decN 4 M b (r.take (4 - 1)) = (-1, 1) by rw [HD.out, if_neg (by rintro ⟨_, h⟩; exact heq h)])
            have hq : (encR C == ((⟨l.toArray⟩ : ByteArray).extract 0 4).toList) = false := by rw [HEX.out]; simpa using heq
            have HQ := hide (And.intro hc heq)
            clear hc heq
            go_wp2_with (go_at_call 56; refine (cE.out _).mono ?_; rintro e w2 ⟨rfl, hb2⟩)
            go_ret2
            exact ⟨by rw [HF.out]; rfl, hB.trans (hb2.mono hB.size)⟩
set_option maxHeartbeats 400000 in
theorem decode_nil (w : World) : Calls Tryd.prog 80 #[.string ⟨#[]⟩] w fun e w' => e = .returned (.tuple #[.int .i64 (-1), .int .i64 0]) ∧ w = w' := by
  go_enter Tryd.func80, Tryd.ntmps80
  go_wp2_with fail
  go_ret2
  exact ⟨rfl, rfl⟩
/-- muslinref01.Decode. -/
theorem refDecode_any (l : List UInt8) (w : World) (hz : l.length ≤ 4611686018427387903) :
    Calls Tryd.prog 80 #[.string ⟨l.toArray⟩] w fun e w' => e = .returned (.tuple #[.int .i64 (decR l).1, .int .i64 ((decR l).2 : Int)]) ∧ Below w.heap.size w w' := by
  match hl : l with
  | [] => exact (decode_nil w).mono fun e w' ⟨he, hw⟩ => ⟨he, by subst hw; exact Below.refl _ _⟩
  | b :: r =>
    by_cases h : sizeR b = 0 ∨ r.length + 1 < sizeR b
    · have e : decR (b :: r) = (-1, 1) := by rw [decR_cons, if_pos h]
      rw [e]
      exact decode_short _ b r rfl h w hz
    · have h4 := sizeR_le b
      have hn : sizeR b = 1 ∨ sizeR b = 2 ∨ sizeR b = 3 ∨ sizeR b = 4 := by omega
      rcases hn with hn | hn | hn | hn
      · rw [decR_decN b r 1 128 hn (by omega) (by omega) rfl]
        exact decode_long 1 128 (by omega) _ b r rfl hn (by omega) w hz
      · rw [decR_decN b r 2 32 hn (by omega) (by omega) rfl]
        exact decode_long 2 32 (by omega) _ b r rfl hn (by omega) w hz
      · rw [decR_decN b r 3 16 hn (by omega) (by omega) rfl]
        exact decode_long 3 16 (by omega) _ b r rfl hn (by omega) w hz
      · rw [decR_decN b r 4 8 hn (by omega) (by omega) rfl]
        exact decode_long 4 8 (by omega) _ b r rfl hn (by omega) w hz
end Go.Proofs.YtdnmgpidfjkiaaaDoor

namespace Go.Proofs.YtdnmgpidfjkiaaaDoor
open Go.RowKit
set_option linter.unusedVariables false
set_option linter.unusedSimpArgs false

theorem info_i64 : (Tryd.prog.info? 3).map (fun i => (i.zero, i.size, i.bytes)) = some (some (.int .i64 0), 1, 8) := by kernel_rfl
theorem info_u8R : (Tryd.prog.info? 5).map (fun i => (i.zero, i.size, i.bytes)) = some (some (.int .u8 0), 1, 1) := by kernel_rfl
theorem own_keep {w w' : World} {base n size : Nat} {e : TypeId} {v : Value} {xs : List Value} (h : w.ownsRow base e size v n xs) (hb : Below w.heap.size w w') : w'.ownsRow base e size v n xs :=
  h.kept (row := none) ⟨hb.os, hb.tape, hb.output, hb.size, fun k hk _ => hb.block k hk⟩ (by cases h : v.ownBlock <;> simp)
theorem grow_stepR {w wr w1 : World} {B k size : Nat} {e : TypeId} {v : Value} {xs : List Value} {o : Obj} (hown : wr.ownsRow B e size v k xs) (hb : Below B w wr) (hB : B ≤ wr.heap.size) (hg : (wr.alloc o).grownBy w1 v.ownBlock) : Below B w w1 :=
  (hb.alloc hB o).grown hg (by simp; omega) (fun j hj => (hown.lt j hj).1)
theorem grow_stepS {w wr w1 : World} {B k size : Nat} {e : TypeId} {v : Value} {xs : List Value} (hown : wr.ownsRow B e size v k xs) (hb : Below B w wr) (hB : B ≤ wr.heap.size) (hg : wr.grownBy w1 v.ownBlock) : Below B w w1 :=
  hb.grown hg hB (fun j hj => (hown.lt j hj).1)
theorem drop_str (l : List UInt8) (k : Nat) : (⟨l.toArray⟩ : ByteArray).extract k l.length = ⟨(l.drop k).toArray⟩ := by
  have := Lib.extract_from (⟨l.toArray⟩ : ByteArray) k
  rw [mk_size] at this
  exact this
abbrev ints (xs : List Int) : List Value := xs.map (Value.int .i64)
theorem fixC_no {c : Int} (h : ¬ c ≤ 0) : fixC c = c := by unfold fixC; rw [if_neg h]
theorem fixC_yes {c : Int} (h : c ≤ 0) : fixC c = 65533 := by unfold fixC; rw [if_pos h]
theorem chars_next (l : List UInt8) (k : Nat) (xs : List Int) (hk : k < l.length) (h : xs ++ charsR (l.drop k) = charsR l) :
    (xs ++ [fixC (decR (l.drop k)).1]) ++ charsR (l.drop (k + (decR (l.drop k)).2)) = charsR l := by
  rw [charsR_cons (l.drop k) (by intro e; have := congrArg List.length e; rw [List.length_drop] at this; simp at this; omega)] at h
  rw [← h, List.drop_drop]
  simp
set_option maxHeartbeats 4000000 in
set_option maxRecDepth 100000 in
theorem refChars_any (l : List UInt8) (w : World) (hz : l.length ≤ 1000000000) :
    Calls Tryd.prog 52 #[.string ⟨l.toArray⟩] w fun e w' => ∃ v, e = .returned v ∧ w'.ownsRow w.heap.size 3 1 v (charsR l).length (ints (charsR l)) ∧ Below w.heap.size w w' := by
  obtain ⟨i0, hi, hz0, hz1, hz2⟩ := info_parts info_i64
  go_enter Tryd.func52, Tryd.ntmps52
  go_wp2
  go_loopw [3, 4] (fun b i wr => ∃ (k : Nat) (xs : List Int), i = .int .i64 (k : Int) ∧ k ≤ l.length ∧ xs.length ≤ k ∧ wr.ownsRow w.heap.size 3 1 b xs.length (ints xs) ∧ Below w.heap.size w wr ∧ Hid (xs ++ charsR (l.drop k) = charsR l)) (fun _ i _ => l.length - (intOf i).toNat)
  case atStart => exact ⟨0, [], rfl, Nat.zero_le _, Nat.le_refl _, World.ownsRow_nil _ _ _ _, Below.refl _ _, rfl⟩
  case round =>
    obtain ⟨k, xs, rfl, hk, hxk, hown, hb, hch⟩ := hrel
    by_cases hlt : k < l.length
    · have cD := refDecode_any (l.drop k) wr (by rw [List.length_drop]; omega)
      rw [← drop_str] at cD
      have hp := decR_pos (l.drop k) (by intro e; have := congrArg List.length e; rw [List.length_drop] at this; simp at this; omega)
      rw [List.length_drop] at hp
      have hnx := hide (chars_next l k xs hlt hch.out)
      generalize decR (l.drop k) = d at cD hp hnx
      obtain ⟨c, n⟩ := d
      simp only at cD hp hnx
      have cD := hide cD
      obtain ⟨hp1, hp2⟩ := hp
      have hkl : (k : Int) < (l.length : Int) := by omega
      by_cases hc : c ≤ 0
      · rw [fixC_yes hc] at hnx
        go_wp2_with fail
        refine (cD.out).mono ?_
        rintro e w1 ⟨rfl, hb1⟩
        have hown1 := own_keep hown hb1
        have hbb := hb.trans (hb1.mono hb.size)
        have hbz := hbb.size
        clear hown hb hb1
        go_wp2_with (at_builtin; refine wpList_append_own _ rfl _ _ 41 rfl w.heap.size 3 i0 (.int .i64 0) 1 8 Tryd.underlying41 hi hz0 hz1 hz2 rfl (by decide) _ _ _ rfl (hown1.alloc _) ⟨w1.heap.size, 0, none⟩ 1 1 [.int .i64 65533] rfl rfl (by intro j u hj; match j, hj with | 0, hj => simp at hj; subst hj; simp [Addr.add]) (by intro u hu; simp at hu; subst hu; rfl) (by unfold maxLen; omega) (by omega) (by simp; omega) ?_)
        intro v' w2 hown' hgrow _
        have hb' := grow_stepR hown1 hbb hbz hgrow
        have HO := hide (show w2.ownsRow w.heap.size 3 1 v' (xs ++ [65533]).length (ints (xs ++ [65533])) by simpa [ints] using hown')
        clear hown' hgrow hown1 hch
        go_wp2
        go_roundw
        case rel => exact ⟨k + n, xs ++ [65533], by go_num, by omega, by simp; omega, HO, hb', hnx⟩
        case measure => simp [intOf]; omega
      · rw [fixC_no hc] at hnx
        have hc0 : (0 : Int) < c := by omega
        have hcd : decide (c ≤ 0) = false := by simpa using hc
        clear hc
        go_wp2_with fail
        refine (cD.out).mono ?_
        rintro e w1 ⟨rfl, hb1⟩
        have hown1 := own_keep hown hb1
        have hbb := hb.trans (hb1.mono hb.size)
        have hbz := hbb.size
        clear hown hb hb1
        go_wp2_with (at_builtin; refine wpList_append_own _ rfl _ _ 41 rfl w.heap.size 3 i0 (.int .i64 0) 1 8 Tryd.underlying41 hi hz0 hz1 hz2 rfl (by decide) _ _ _ rfl (hown1.alloc _) ⟨w1.heap.size, 0, none⟩ 1 1 [.int .i64 c] rfl rfl (by intro j u hj; match j, hj with | 0, hj => simp at hj; subst hj; simp [Addr.add]) (by intro u hu; simp at hu; subst hu; rfl) (by unfold maxLen; omega) (by omega) (by simp; omega) ?_)
        intro v' w2 hown' hgrow _
        have hb' := grow_stepR hown1 hbb hbz hgrow
        have HO := hide (show w2.ownsRow w.heap.size 3 1 v' (xs ++ [c]).length (ints (xs ++ [c])) by simpa [ints] using hown')
        clear hown' hgrow hown1 hch
        go_wp2
        go_roundw
        case rel => exact ⟨k + n, xs ++ [c], by go_num, by omega, by simp; omega, HO, hb', hnx⟩
        case measure => simp [intOf]; omega
    · have hk2 : k = l.length := by omega
      have hxs : xs = charsR l := by have := hch.out; rw [hk2, List.drop_length, charsR_nil, List.append_nil] at this; exact this
      subst hxs
      clear hk2 hch
      go_wp2
      go_ret
      exact ⟨_, rfl, hown, hb⟩
theorem own_kept_other {w w' : World} {B1 B2 s1 n m : Nat} {e1 e2 : TypeId} {v u : Value} {xs ys : List Value} (hv : w.ownsRow B1 e1 s1 v n xs) (hu : w.ownsRow B2 e2 1 u m ys) (hne : e1 ≠ e2) (hg : w.grownBy w' u.ownBlock) : w'.ownsRow B1 e1 s1 v n xs := by
  refine hv.kept hg ?_
  rcases hv.2 with ⟨rfl, _⟩ | ⟨g, cap, cur, rfl, _, hgg, _⟩
  · exact .inl rfl
  · exact .inr fun h => Lib.ownBlock_ne hu hgg hne h.symm
theorem conv_ownR {w : World} {base n : Nat} {v : Value} {l : List UInt8} (h : w.ownsRow base 5 1 v n (bv l)) : (convert 78 9 v).run Tryd.prog w = .ok (.string ⟨l.toArray⟩) w := by
  have h2 := h
  rcases h.2 with ⟨rfl, rfl⟩ | ⟨g, cap, cur, rfl, _⟩
  · exact conv_str 78 9 5 Tryd.underlying78 Tryd.underlying5 Tryd.underlying9 (Reads.of_own h2)
  · exact conv_str 78 9 5 Tryd.underlying78 Tryd.underlying5 Tryd.underlying9 (Reads.of_own h2)
theorem bv_app (a b : List UInt8) : bv (a ++ b) = bv a ++ Lib.strCells ⟨b.toArray⟩ := by simp [bv, Lib.strCells]
set_option maxHeartbeats 4000000 in
set_option maxRecDepth 100000 in
theorem refRepair_any (l : List UInt8) (w : World) (hz : l.length ≤ 1000000000) :
    Calls Tryd.prog 29 #[.string ⟨l.toArray⟩] w fun e w' => e = .returned (.string ⟨(repairR l).toArray⟩) ∧ Below w.heap.size w w' := by
  obtain ⟨i0, hi, hz0, hz1, hz2⟩ := info_parts info_u8R
  have cC := hide (fun w => refChars_any l w hz)
  have hm := charsR_len l
  have hgood := charsR_good l
  have hrep := hide (show repairR l = (charsR l).flatMap encL from rfl)
  generalize repairR l = R at hrep
  generalize charsR l = cs at cC hm hgood hrep
  have HG := hide hgood
  clear hgood
  go_enter Tryd.func29, Tryd.ntmps29
  go_wp2_with fail
  refine (cC.out _).mono ?_
  rintro e w1 ⟨v, rfl, hown0, hb0⟩
  rcases hown0.2 with ⟨rfl, hn0⟩ | ⟨g, cap, cur, rfl, _⟩
  · have hcs : cs = [] := List.eq_nil_of_length_eq_zero hn0
    have HR := hide (show R = [] by rw [hrep.out, hcs]; rfl)
    clear hown0 hrep hn0 hcs
    have hcv := conv_ownR (w := w1) (base := w.heap.size) (v := .slice none 0 0) (n := 0) (l := []) (World.ownsRow_nil _ _ _ _)
    go_wp2_with fail
    go_loop [3, 5] (fun b i => b = .slice none 0 0 ∧ i = .int .i64 0) (fun _ _ => 0)
    case atStart => exact ⟨rfl, rfl⟩
    case round =>
      obtain ⟨rfl, rfl⟩ := hrel
      go_wp2_with fail
      go_ret
      exact ⟨by rw [HR.out]; rfl, hb0⟩
  · go_wp2_with fail
    go_loopw [3, 5] (fun b i wr => ∃ (k : Nat) (ys : List UInt8), i = .int .i64 (k : Int) ∧ k ≤ cs.length ∧ ys.length ≤ 4 * k ∧ wr.ownsRow w.heap.size 5 1 b ys.length (bv ys) ∧ wr.ownsRow w.heap.size 3 1 (.slice (some ⟨g, 0, none⟩) cs.length cap) cs.length (ints cs) ∧ Below w.heap.size w wr ∧ Hid (ys = (cs.take k).flatMap encL)) (fun _ i _ => cs.length - (intOf i).toNat)
    case atStart => exact ⟨0, [], rfl, Nat.zero_le _, Nat.le_refl _, World.ownsRow_nil _ _ _ _, hown0, hb0, rfl⟩
    case round =>
      obtain ⟨k, ys, rfl, hk, hyk, hown, hcs, hb, hys⟩ := hrel
      by_cases hlt : k < cs.length
      · obtain ⟨c, hc⟩ : ∃ c, cs[k]? = some c := ⟨_, List.getElem?_eq_getElem hlt⟩
        have hcell := hcs.cells (g := g) rfl k (.int .i64 c) (by simp [ints, hc])
        rw [show (⟨g, 0, none⟩ : Addr).add k = ⟨g, k, none⟩ by unfold Addr.add; split <;> simp_all] at hcell
        have hgc := HG.out c (List.mem_of_getElem? hc)
        obtain ⟨hcn, hcb⟩ := good_nat hgc
        have cE := encode_ok c.toNat (by rw [hcn]; exact hgc)
        rw [hcn] at cE
        have hnx := hide (show ys ++ encR c.toNat = (cs.take (k + 1)).flatMap encL by rw [List.take_add_one, hc, hys.out]; simp [encL_good hgc])
        have hel := (encR_len c.toNat).2
        generalize encR c.toNat = t at cE hnx hel
        have cE := hide cE
        have hsz : (⟨t.toArray⟩ : ByteArray).size = t.length := mk_size t
        have HZ := hide hsz
        have hkm : (k : Int) < (cs.length : Int) := by omega
        clear hgc hcn hcb hc hsz
        go_wp2_with fail
        refine (cE.out _).mono ?_
        rintro e w2 ⟨rfl, hb2⟩
        have hown2 := own_keep hown hb2
        have hcs2 := own_keep hcs hb2
        have hbb := hb.trans (hb2.mono hb.size)
        have hbz := hbb.size
        clear hown hb hb2 hcs hcell
        go_wp2_with (at_builtin; refine Lib.wpList_append_own_string _ rfl _ _ 78 9 rfl w.heap.size 5 i0 Tryd.underlying78 Tryd.underlying9 hi hz0 hz1 hz2 _ _ _ rfl hown2 ⟨t.toArray⟩ rfl (by rw [HZ.out]; unfold maxLen; omega) (by rw [HZ.out]; omega) hbz ?_)
        intro v' w3 hown' hgrow _
        have hb' := grow_stepS hown2 hbb hbz hgrow
        have hcs' := own_kept_other hcs2 hown2 (by decide) hgrow
        have HO := hide (show w3.ownsRow w.heap.size 5 1 v' (ys ++ t).length (bv (ys ++ t)) by rw [bv_app, List.length_append, ← HZ.out]; exact hown')
        clear hown' hgrow hown2 hys hcs2
        go_wp2_with fail
        go_roundw
        case rel => exact ⟨k + 1, ys ++ t, by go_num, by omega, by simp; omega, HO, hcs', hb', hnx⟩
        case measure => simp [intOf]; omega
      · have hk2 : k = cs.length := by omega
        have hR : ys = R := by rw [hrep.out, hys.out, hk2, List.take_length]
        subst hR
        have hcv := conv_ownR hown
        clear hk2 hown hcs hys
        go_wp2_with fail
        go_ret
        exact ⟨rfl, hb⟩
end Go.Proofs.YtdnmgpidfjkiaaaDoor
