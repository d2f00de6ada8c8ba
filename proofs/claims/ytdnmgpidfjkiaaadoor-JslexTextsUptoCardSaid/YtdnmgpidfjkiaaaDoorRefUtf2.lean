/-
  muslinref01: Decode.
-/
import Derived.Test.YtdnmgpidfjkiaaaDoorRefUtf
import Derived.IntWalk
namespace Go.Proofs.YtdnmgpidfjkiaaaDoor
open Go.RowKit
set_option linter.unusedVariables false
set_option linter.unusedSimpArgs false

theorem and_mask (m : Nat) (hm : m = 127 ∨ m = 31 ∨ m = 15 ∨ m = 7) (b : UInt8) : bits BinOp.and IntKind.i64 (b.toNat : Int) (m : Int) = ((b.toNat % (m + 1) : Nat) : Int) := by
  have := allBytes (fun b => bits BinOp.and IntKind.i64 (b.toNat : Int) 127 == ((b.toNat % 128 : Nat) : Int) && bits BinOp.and IntKind.i64 (b.toNat : Int) 31 == ((b.toNat % 32 : Nat) : Int) && bits BinOp.and IntKind.i64 (b.toNat : Int) 15 == ((b.toNat % 16 : Nat) : Int) && bits BinOp.and IntKind.i64 (b.toNat : Int) 7 == ((b.toNat % 8 : Nat) : Int)) (by decide +kernel) b
  simp only [Bool.and_eq_true, beq_iff_eq] at this
  obtain ⟨⟨⟨h1, h2⟩, h3⟩, h4⟩ := this
  rcases hm with rfl | rfl | rfl | rfl
  · exact h1
  · exact h2
  · exact h3
  · exact h4
/-- What Decode says of a first octet and its k - 1 followers. -/
def decN (n m : Nat) (b : UInt8) (xs : List UInt8) : Int × Nat :=
  if xs.all contB = false then (-1, 1)
  else if badC (accR m xs : Nat) = false ∧ encR (accR m xs) = b :: xs then ((accR m xs : Nat), n) else (-1, 1)
theorem decR_decN (b : UInt8) (r : List UInt8) (n m : Nat) (hn : sizeR b = n) (h1 : 1 ≤ n) (h2 : n ≤ r.length + 1) (hm : maskR n = m) : decR (b :: r) = decN n (b.toNat % m) b (r.take (n - 1)) := by
  rw [decR_cons, hn, hm, if_neg (by omega)]; rfl
set_option maxHeartbeats 2000000 in
set_option maxRecDepth 100000 in
theorem decode_short (l : List UInt8) (b : UInt8) (r : List UInt8) (hl : l = b :: r) (h : sizeR b = 0 ∨ r.length + 1 < sizeR b) (w : World) (hz : l.length ≤ 4611686018427387903) :
    Calls Tryd.prog 80 #[.string ⟨l.toArray⟩] w fun e w' => e = .returned (.tuple #[.int .i64 (-1), .int .i64 1]) ∧ Below w.heap.size w w' := by
  have hlen : l.length = r.length + 1 := by rw [hl]; rfl
  have hp : 0 < (⟨l.toArray⟩ : ByteArray).size := by rw [mk_size]; omega
  have hb : (⟨l.toArray⟩ : ByteArray)[0]'hp = b := by subst hl; rfl
  have he : l.isEmpty = false := by rw [hl]; rfl
  have cZ := hide (sizeR_any b w)
  have hs4 := sizeR_le b
  have hlp : 0 < (l.length : Int) := by omega
  by_cases h0 : sizeR b = 0
  · rw [h0] at cZ
    have H := hide (And.intro hl (And.intro h hlen))
    clear hl h hlen h0
    go_enter Tryd.func80, Tryd.ntmps80
    go_wp2_with (go_at_call 108; refine (Hid.out cZ).mono ?_; rintro e w1 ⟨rfl, rfl⟩)
    go_ret2
    exact ⟨rfl, Below.refl _ _⟩
  · have h2 : (l.length : Int) < (sizeR b : Int) := by omega
    have h3 : ((sizeR b : Int) == 0) = false := by simp; omega
    generalize sizeR b = n at cZ h2 h3 hs4
    have H := hide (And.intro hl (And.intro h hlen))
    clear hl h hlen h0
    go_enter Tryd.func80, Tryd.ntmps80
    go_wp2_with (go_at_call 108; refine (Hid.out cZ).mono ?_; rintro e w1 ⟨rfl, rfl⟩)
    go_ret2
    exact ⟨rfl, Below.refl _ _⟩
set_option maxHeartbeats 8000000 in
set_option maxRecDepth 100000 in
theorem decode_long (n m : Nat) (hn : (n = 1 ∧ m = 128) ∨ (n = 2 ∧ m = 32) ∨ (n = 3 ∧ m = 16) ∨ (n = 4 ∧ m = 8)) (l : List UInt8) (b : UInt8) (r : List UInt8) (hl : l = b :: r) (hsz : sizeR b = n) (hr : n ≤ r.length + 1) (w : World) (hz : l.length ≤ 4611686018427387903) :
    Calls Tryd.prog 80 #[.string ⟨l.toArray⟩] w fun e w' => e = .returned (.tuple #[.int .i64 (decN n (b.toNat % m) b (r.take (n - 1))).1, .int .i64 ((decN n (b.toNat % m) b (r.take (n - 1))).2 : Int)]) ∧ Below w.heap.size w w' := by
  have hlen : l.length = r.length + 1 := by rw [hl]; rfl
  have hp : 0 < (⟨l.toArray⟩ : ByteArray).size := by rw [mk_size]; omega
  have hb : (⟨l.toArray⟩ : ByteArray)[0]'hp = b := by subst hl; rfl
  have he : l.isEmpty = false := by rw [hl]; rfl
  have cZ := hide (sizeR_any b w)
  rw [hsz] at cZ
  have hlp : 0 < (l.length : Int) := by omega
  have hln : (n : Int) ≤ (l.length : Int) := by omega
  have hand := and_mask (m - 1) (by omega) b
  rw [show m - 1 + 1 = m by omega] at hand
  have hm0 : b.toNat % m < 128 := by have : b.toNat % m < m := Nat.mod_lt _ (by omega); omega
  generalize hM : b.toNat % m = M at hand hm0 ⊢
  have hlr : ∀ j (hj : j + 1 < (⟨l.toArray⟩ : ByteArray).size), ∃ x, (⟨l.toArray⟩ : ByteArray)[j + 1]'hj = x ∧ r[j]? = some x := by
    intro j hj
    refine ⟨_, rfl, ?_⟩
    subst hl
    rw [mk_size] at hj
    simp only [List.length_cons] at hj
    rw [List.getElem?_eq_getElem (by omega)]
    rfl
  have HLR := hide hlr
  have H := hide (And.intro hl (And.intro hsz (And.intro hr (And.intro hlen hM))))
  clear hl hsz hr hlen hM hlr
  rcases hn with ⟨rfl, rfl⟩ | ⟨rfl, rfl⟩ | ⟨rfl, rfl⟩ | ⟨rfl, rfl⟩
  · have hand : bits BinOp.and IntKind.i64 (b.toNat : Int) 127 = (M : Int) := hand
    have hb256 : (b.toNat : Int) < 256 := by have := b.toNat_lt; omega
    have hb000 : (0 : Int) ≤ (b.toNat : Int) := by omega
    have hln' : (1 : Int) ≤ (l.length : Int) := by simpa using hln
    have hB0 := (Below.refl w.heap.size w).alloc (Nat.le_refl _) (.cells #[.int .i64 0, .int .i64 127, .int .i64 31, .int .i64 15, .int .i64 7] 3)
    go_enter Tryd.func80, Tryd.ntmps80
    go_wp2_with (go_at_call 108; refine (Hid.out cZ).mono ?_; rintro e w1 ⟨rfl, rfl⟩)
    go_quiet (fail)
    have hB := below_drewN hB0 nq
    generalize hW : ((w.alloc (.cells #[.int .i64 0, .int .i64 127, .int .i64 31, .int .i64 15, .int .i64 7] 3)).drewN nq) = W at hB ⊢
    clear hW hB0
    go_wp2_with fail
    go_loop [6, 7] (fun cv i => ∃ j : Nat, i = .int .i64 ((j : Int) + 1) ∧ j + 1 ≤ 1 ∧ cv = .int .i64 (accR M (r.take j) : Nat) ∧ Hid ((r.take j).all contB = true)) (fun _ i => 1 - (intOf i).toNat)
    case atStart => exact ⟨0, by simp, by omega, by simp [accR], rfl⟩
    case round =>
      obtain ⟨j, rfl, hj, rfl, hall⟩ := hrel
      have hbd := accR_bd M hm0 (r.take j) (by rw [List.length_take]; omega) hall.out
      by_cases hlt : j + 1 < 1
      · omega
      · have hj2 : j = 1 - 1 := by omega
        subst hj2
        have hex : ((⟨l.toArray⟩ : ByteArray).extract 0 1).toList = b :: r.take (1 - 1) := by
          rw [Lib.extract_toList, H.out.1]; simp
        have HEX := hide hex
        clear hex
        have hdn : decN 1 M b (r.take (1 - 1)) = show Int × Nat from if badC (accR M (r.take (1 - 1)) : Nat) = false ∧ encR (accR M (r.take (1 - 1))) = b :: r.take (1 - 1) then ((accR M (r.take (1 - 1)) : Nat), 1) else (-1, 1) := by
          unfold decN
          rw [if_neg (by rw [hall.out]; decide)]
        have HD := hide hdn
        clear hdn hall
        generalize accR M (r.take (1 - 1)) = C at hbd HD ⊢
        rcases Bool.eq_false_or_eq_true (badC (C : Int)) with hc | hc
        · have HF := hide (show decN 1 M b (r.take (1 - 1)) = (-1, 1) by rw [HD.out, if_neg (by rw [hc]; simp)])
          have cE := hide (fun w => encode_bad (C : Int) hc w)
          clear hc
          go_wp2_with (go_at_call 56; refine (cE.out _).mono ?_; rintro e w2 ⟨rfl, rfl⟩)
          go_ret2
          exact ⟨by rw [HF.out]; rfl, hB⟩
        · have cE := hide (fun w => encode_ok C hc w)
          by_cases heq : encR C = b :: r.take (1 - 1)
          · have HF := hide (show decN 1 M b (r.take (1 - 1)) = ((C : Int), 1) by rw [HD.out, if_pos ⟨hc, heq⟩])
            have hq : (encR C == ((⟨l.toArray⟩ : ByteArray).extract 0 1).toList) = true := by rw [HEX.out, heq]; simp
            have HQ := hide (And.intro hc heq)
            clear hc heq
            go_wp2_with (go_at_call 56; refine (cE.out _).mono ?_; rintro e w2 ⟨rfl, hb2⟩)
            go_ret2
            exact ⟨by rw [HF.out]; rfl, hB.trans (hb2.mono hB.size)⟩
          · have HF := hide (show decN 1 M b (r.take (1 - 1)) = (-1, 1) by rw [HD.out, if_neg (by rintro ⟨_, h⟩; exact heq h)])
            have hq : (encR C == ((⟨l.toArray⟩ : ByteArray).extract 0 1).toList) = false := by rw [HEX.out]; simpa using heq
            have HQ := hide (And.intro hc heq)
            clear hc heq
            go_wp2_with (go_at_call 56; refine (cE.out _).mono ?_; rintro e w2 ⟨rfl, hb2⟩)
            go_ret2
            exact ⟨by rw [HF.out]; rfl, hB.trans (hb2.mono hB.size)⟩
  · have hand : bits BinOp.and IntKind.i64 (b.toNat : Int) 31 = (M : Int) := hand
    have hb256 : (b.toNat : Int) < 256 := by have := b.toNat_lt; omega
    have hb000 : (0 : Int) ≤ (b.toNat : Int) := by omega
    have hln' : (2 : Int) ≤ (l.length : Int) := by simpa using hln
    have hB0 := (Below.refl w.heap.size w).alloc (Nat.le_refl _) (.cells #[.int .i64 0, .int .i64 127, .int .i64 31, .int .i64 15, .int .i64 7] 3)
    go_enter Tryd.func80, Tryd.ntmps80
    go_wp2_with (go_at_call 108; refine (Hid.out cZ).mono ?_; rintro e w1 ⟨rfl, rfl⟩)
    go_quiet (fail)
    have hB := below_drewN hB0 nq
    generalize hW : ((w.alloc (.cells #[.int .i64 0, .int .i64 127, .int .i64 31, .int .i64 15, .int .i64 7] 3)).drewN nq) = W at hB ⊢
    clear hW hB0
    go_wp2_with fail
    go_loop [6, 7] (fun cv i => ∃ j : Nat, i = .int .i64 ((j : Int) + 1) ∧ j + 1 ≤ 2 ∧ cv = .int .i64 (accR M (r.take j) : Nat) ∧ Hid ((r.take j).all contB = true)) (fun _ i => 2 - (intOf i).toNat)
    case atStart => exact ⟨0, by simp, by omega, by simp [accR], rfl⟩
    case round =>
      obtain ⟨j, rfl, hj, rfl, hall⟩ := hrel
      have hbd := accR_bd M hm0 (r.take j) (by rw [List.length_take]; omega) hall.out
      by_cases hlt : j + 1 < 2
      · obtain ⟨x, hx, hrx⟩ := HLR.out j (by rw [mk_size]; omega)
        have hnext := accR_snoc M (r.take j) x
        have htk : r.take (j + 1) = r.take j ++ [x] := by rw [List.take_add_one, hrx]; rfl
        rw [← htk] at hnext
        have hjl : ((j : Int) + 1) < (l.length : Int) := by omega
        have hj0 : (0 : Int) ≤ (j : Int) + 1 := by omega
        have hjt : ((j : Int) + 1).toNat = j + 1 := by omega
        rcases Bool.eq_false_or_eq_true (contB x) with hc | hc
        · have hc1 : (128 : Int) ≤ (x.toNat : Int) ∧ (x.toNat : Int) ≤ 191 := by simp [contB] at hc; omega
          obtain ⟨hc1, hc2⟩ := hc1
          have hall2 := hide (show (r.take (j + 1)).all contB = true by rw [htk, List.all_append, hall.out]; simp [hc])
          have hnx : ((accR M (r.take (j + 1)) : Nat) : Int) = (accR M (r.take j) : Nat) * 64 + (x.toNat : Int) - 128 := by rw [hnext]; omega
          have HNX := hide hnx
          have HT := hide (And.intro htk hrx)
          clear hnext htk hrx hc hnx
          generalize accR M (r.take j) = C at hbd HNX ⊢
          have hC0 : (0 : Int) ≤ (C : Int) := by omega
          have hC1 : (C : Int) < 33554432 := by omega
          have d1 : decide ((x.toNat : Int) < 128) = false := by simp; omega
          have d2 : decide ((191 : Int) < (x.toNat : Int)) = false := by simp; omega
          have hx0 : (x.toNat : Int) < 256 := by have := x.toNat_lt; omega
          have w1 : IntKind.i64.wrap ((C : Int) * 64) = (C : Int) * 64 := IntWalk.i64_in _ (by omega)
          have w2 : IntKind.i64.wrap ((C : Int) * 64 + (x.toNat : Int)) = (C : Int) * 64 + (x.toNat : Int) := IntWalk.i64_in _ (by omega)
          have w3 : IntKind.i64.wrap ((C : Int) * 64 + (x.toNat : Int) - 128) = (C : Int) * 64 + (x.toNat : Int) - 128 := IntWalk.i64_in _ (by omega)
          clear hbd hj0 hjt hC1
          go_wp2_with fail
          clear w1 w2 w3
          go_round
          case rel => exact ⟨j + 1, by go_num, by omega, by rw [HNX.out], hall2⟩
          case measure => simp [intOf]; omega
        · have hdn : decN 2 M b (r.take (2 - 1)) = (-1, 1) := by
            unfold decN
            rw [if_pos]
            rw [List.all_eq_false]
            refine ⟨x, ?_, by simp [hc]⟩
            rw [List.mem_iff_getElem?]
            exact ⟨j, by rw [List.getElem?_take, if_pos (by omega)]; exact hrx⟩
          have HF := hide hdn
          have HT := hide (And.intro htk hrx)
          clear hnext htk hrx hdn hbd
          by_cases hc1 : (x.toNat : Int) < 128
          · clear hc
            go_wp2_with fail
            go_ret2
            exact ⟨by rw [HF.out]; rfl, hB⟩
          · have hc2 : (191 : Int) < (x.toNat : Int) := by simp [contB] at hc; omega
            have d1 : decide ((x.toNat : Int) < 128) = false := by simpa using hc1
            clear hc hc1
            go_wp2_with fail
            go_ret2
            exact ⟨by rw [HF.out]; rfl, hB⟩
      · have hj2 : j = 2 - 1 := by omega
        subst hj2
        have hex : ((⟨l.toArray⟩ : ByteArray).extract 0 2).toList = b :: r.take (2 - 1) := by
          rw [Lib.extract_toList, H.out.1]; simp
        have HEX := hide hex
        clear hex
        have hdn : decN 2 M b (r.take (2 - 1)) = show Int × Nat from if badC (accR M (r.take (2 - 1)) : Nat) = false ∧ encR (accR M (r.take (2 - 1))) = b :: r.take (2 - 1) then ((accR M (r.take (2 - 1)) : Nat), 2) else (-1, 1) := by
          unfold decN
          rw [if_neg (by rw [hall.out]; decide)]
        have HD := hide hdn
        clear hdn hall
        generalize accR M (r.take (2 - 1)) = C at hbd HD ⊢
        rcases Bool.eq_false_or_eq_true (badC (C : Int)) with hc | hc
        · have HF := hide (show decN 2 M b (r.take (2 - 1)) = (-1, 1) by rw [HD.out, if_neg (by rw [hc]; simp)])
          have cE := hide (fun w => encode_bad (C : Int) hc w)
          clear hc
          go_wp2_with (go_at_call 56; refine (cE.out _).mono ?_; rintro e w2 ⟨rfl, rfl⟩)
          go_ret2
          exact ⟨by rw [HF.out]; rfl, hB⟩
        · have cE := hide (fun w => encode_ok C hc w)
          by_cases heq : encR C = b :: r.take (2 - 1)
          · have HF := hide (show decN 2 M b (r.take (2 - 1)) = ((C : Int), 2) by rw [HD.out, if_pos ⟨hc, heq⟩])
            have hq : (encR C == ((⟨l.toArray⟩ : ByteArray).extract 0 2).toList) = true := by rw [HEX.out, heq]; simp
            have HQ := hide (And.intro hc heq)
            clear hc heq
            go_wp2_with (go_at_call 56; refine (cE.out _).mono ?_; rintro e w2 ⟨rfl, hb2⟩)
            go_ret2
            exact ⟨by rw [HF.out]; rfl, hB.trans (hb2.mono hB.size)⟩
          · have HF := hide (show decN 2 M b (r.take (2 - 1)) = (-1, 1) by rw [HD.out, if_neg (by rintro ⟨_, h⟩; exact heq h)])
            have hq : (encR C == ((⟨l.toArray⟩ : ByteArray).extract 0 2).toList) = false := by rw [HEX.out]; simpa using heq
            have HQ := hide (And.intro hc heq)
            clear hc heq
            go_wp2_with (go_at_call 56; refine (cE.out _).mono ?_; rintro e w2 ⟨rfl, hb2⟩)
            go_ret2
            exact ⟨by rw [HF.out]; rfl, hB.trans (hb2.mono hB.size)⟩
  · have hand : bits BinOp.and IntKind.i64 (b.toNat : Int) 15 = (M : Int) := hand
    have hb256 : (b.toNat : Int) < 256 := by have := b.toNat_lt; omega
    have hb000 : (0 : Int) ≤ (b.toNat : Int) := by omega
    have hln' : (3 : Int) ≤ (l.length : Int) := by simpa using hln
    have hB0 := (Below.refl w.heap.size w).alloc (Nat.le_refl _) (.cells #[.int .i64 0, .int .i64 127, .int .i64 31, .int .i64 15, .int .i64 7] 3)
    go_enter Tryd.func80, Tryd.ntmps80
    go_wp2_with (go_at_call 108; refine (Hid.out cZ).mono ?_; rintro e w1 ⟨rfl, rfl⟩)
    go_quiet (fail)
    have hB := below_drewN hB0 nq
    generalize hW : ((w.alloc (.cells #[.int .i64 0, .int .i64 127, .int .i64 31, .int .i64 15, .int .i64 7] 3)).drewN nq) = W at hB ⊢
    clear hW hB0
    go_wp2_with fail
    go_loop [6, 7] (fun cv i => ∃ j : Nat, i = .int .i64 ((j : Int) + 1) ∧ j + 1 ≤ 3 ∧ cv = .int .i64 (accR M (r.take j) : Nat) ∧ Hid ((r.take j).all contB = true)) (fun _ i => 3 - (intOf i).toNat)
    case atStart => exact ⟨0, by simp, by omega, by simp [accR], rfl⟩
    case round =>
      obtain ⟨j, rfl, hj, rfl, hall⟩ := hrel
      have hbd := accR_bd M hm0 (r.take j) (by rw [List.length_take]; omega) hall.out
      by_cases hlt : j + 1 < 3
      · obtain ⟨x, hx, hrx⟩ := HLR.out j (by rw [mk_size]; omega)
        have hnext := accR_snoc M (r.take j) x
        have htk : r.take (j + 1) = r.take j ++ [x] := by rw [List.take_add_one, hrx]; rfl
        rw [← htk] at hnext
        have hjl : ((j : Int) + 1) < (l.length : Int) := by omega
        have hj0 : (0 : Int) ≤ (j : Int) + 1 := by omega
        have hjt : ((j : Int) + 1).toNat = j + 1 := by omega
        rcases Bool.eq_false_or_eq_true (contB x) with hc | hc
        · have hc1 : (128 : Int) ≤ (x.toNat : Int) ∧ (x.toNat : Int) ≤ 191 := by simp [contB] at hc; omega
          obtain ⟨hc1, hc2⟩ := hc1
          have hall2 := hide (show (r.take (j + 1)).all contB = true by rw [htk, List.all_append, hall.out]; simp [hc])
          have hnx : ((accR M (r.take (j + 1)) : Nat) : Int) = (accR M (r.take j) : Nat) * 64 + (x.toNat : Int) - 128 := by rw [hnext]; omega
          have HNX := hide hnx
          have HT := hide (And.intro htk hrx)
          clear hnext htk hrx hc hnx
          generalize accR M (r.take j) = C at hbd HNX ⊢
          have hC0 : (0 : Int) ≤ (C : Int) := by omega
          have hC1 : (C : Int) < 33554432 := by omega
          have d1 : decide ((x.toNat : Int) < 128) = false := by simp; omega
          have d2 : decide ((191 : Int) < (x.toNat : Int)) = false := by simp; omega
          have hx0 : (x.toNat : Int) < 256 := by have := x.toNat_lt; omega
          have w1 : IntKind.i64.wrap ((C : Int) * 64) = (C : Int) * 64 := IntWalk.i64_in _ (by omega)
          have w2 : IntKind.i64.wrap ((C : Int) * 64 + (x.toNat : Int)) = (C : Int) * 64 + (x.toNat : Int) := IntWalk.i64_in _ (by omega)
          have w3 : IntKind.i64.wrap ((C : Int) * 64 + (x.toNat : Int) - 128) = (C : Int) * 64 + (x.toNat : Int) - 128 := IntWalk.i64_in _ (by omega)
          clear hbd hj0 hjt hC1
          go_wp2_with fail
          clear w1 w2 w3
          go_round
          case rel => exact ⟨j + 1, by go_num, by omega, by rw [HNX.out], hall2⟩
          case measure => simp [intOf]; omega
        · have hdn : decN 3 M b (r.take (3 - 1)) = (-1, 1) := by
            unfold decN
            rw [if_pos]
            rw [List.all_eq_false]
            refine ⟨x, ?_, by simp [hc]⟩
            rw [List.mem_iff_getElem?]
            exact ⟨j, by rw [List.getElem?_take, if_pos (by omega)]; exact hrx⟩
          have HF := hide hdn
          have HT := hide (And.intro htk hrx)
          clear hnext htk hrx hdn hbd
          by_cases hc1 : (x.toNat : Int) < 128
          · clear hc
            go_wp2_with fail
            go_ret2
            exact ⟨by rw [HF.out]; rfl, hB⟩
          · have hc2 : (191 : Int) < (x.toNat : Int) := by simp [contB] at hc; omega
            have d1 : decide ((x.toNat : Int) < 128) = false := by simpa using hc1
            clear hc hc1
            go_wp2_with fail
            go_ret2
            exact ⟨by rw [HF.out]; rfl, hB⟩
      · have hj2 : j = 3 - 1 := by omega
        subst hj2
        have hex : ((⟨l.toArray⟩ : ByteArray).extract 0 3).toList = b :: r.take (3 - 1) := by
          rw [Lib.extract_toList, H.out.1]; simp
        have HEX := hide hex
        clear hex
        have hdn : decN 3 M b (r.take (3 - 1)) = show Int × Nat from if badC (accR M (r.take (3 - 1)) : Nat) = false ∧ encR (accR M (r.take (3 - 1))) = b :: r.take (3 - 1) then ((accR M (r.take (3 - 1)) : Nat), 3) else (-1, 1) := by
          unfold decN
          rw [if_neg (by rw [hall.out]; decide)]
        have HD := hide hdn
        clear hdn hall
        generalize accR M (r.take (3 - 1)) = C at hbd HD ⊢
        rcases Bool.eq_false_or_eq_true (badC (C : Int)) with hc | hc
        · have HF := hide (show decN 3 M b (r.take (3 - 1)) = (-1, 1) by rw [HD.out, if_neg (by rw [hc]; simp)])
          have cE := hide (fun w => encode_bad (C : Int) hc w)
          clear hc
          go_wp2_with (go_at_call 56; refine (cE.out _).mono ?_; rintro e w2 ⟨rfl, rfl⟩)
          go_ret2
          exact ⟨by rw [HF.out]; rfl, hB⟩
        · have cE := hide (fun w => encode_ok C hc w)
          by_cases heq : encR C = b :: r.take (3 - 1)
          · have HF := hide (show decN 3 M b (r.take (3 - 1)) = ((C : Int), 3) by rw [HD.out, if_pos ⟨hc, heq⟩])
            have hq : (encR C == ((⟨l.toArray⟩ : ByteArray).extract 0 3).toList) = true := by rw [HEX.out, heq]; simp
            have HQ := hide (And.intro hc heq)
            clear hc heq
            go_wp2_with (go_at_call 56; refine (cE.out _).mono ?_; rintro e w2 ⟨rfl, hb2⟩)
            go_ret2
            exact ⟨by rw [HF.out]; rfl, hB.trans (hb2.mono hB.size)⟩
          · have HF := hide (show decN 3 M b (r.take (3 - 1)) = (-1, 1) by rw [HD.out, if_neg (by rintro ⟨_, h⟩; exact heq h)])
            have hq : (encR C == ((⟨l.toArray⟩ : ByteArray).extract 0 3).toList) = false := by rw [HEX.out]; simpa using heq
            have HQ := hide (And.intro hc heq)
            clear hc heq
            go_wp2_with (go_at_call 56; refine (cE.out _).mono ?_; rintro e w2 ⟨rfl, hb2⟩)
            go_ret2
            exact ⟨by rw [HF.out]; rfl, hB.trans (hb2.mono hB.size)⟩
  · have hand : bits BinOp.and IntKind.i64 (b.toNat : Int) 7 = (M : Int) := hand
    have hb256 : (b.toNat : Int) < 256 := by have := b.toNat_lt; omega
    have hb000 : (0 : Int) ≤ (b.toNat : Int) := by omega
    have hln' : (4 : Int) ≤ (l.length : Int) := by simpa using hln
    have hB0 := (Below.refl w.heap.size w).alloc (Nat.le_refl _) (.cells #[.int .i64 0, .int .i64 127, .int .i64 31, .int .i64 15, .int .i64 7] 3)
    go_enter Tryd.func80, Tryd.ntmps80
    go_wp2_with (go_at_call 108; refine (Hid.out cZ).mono ?_; rintro e w1 ⟨rfl, rfl⟩)
    go_quiet (fail)
    have hB := below_drewN hB0 nq
    generalize hW : ((w.alloc (.cells #[.int .i64 0, .int .i64 127, .int .i64 31, .int .i64 15, .int .i64 7] 3)).drewN nq) = W at hB ⊢
    clear hW hB0
    go_wp2_with fail
    go_loop [6, 7] (fun cv i => ∃ j : Nat, i = .int .i64 ((j : Int) + 1) ∧ j + 1 ≤ 4 ∧ cv = .int .i64 (accR M (r.take j) : Nat) ∧ Hid ((r.take j).all contB = true)) (fun _ i => 4 - (intOf i).toNat)
    case atStart => exact ⟨0, by simp, by omega, by simp [accR], rfl⟩
    case round =>
      obtain ⟨j, rfl, hj, rfl, hall⟩ := hrel
      have hbd := accR_bd M hm0 (r.take j) (by rw [List.length_take]; omega) hall.out
      by_cases hlt : j + 1 < 4
      · obtain ⟨x, hx, hrx⟩ := HLR.out j (by rw [mk_size]; omega)
        have hnext := accR_snoc M (r.take j) x
        have htk : r.take (j + 1) = r.take j ++ [x] := by rw [List.take_add_one, hrx]; rfl
        rw [← htk] at hnext
        have hjl : ((j : Int) + 1) < (l.length : Int) := by omega
        have hj0 : (0 : Int) ≤ (j : Int) + 1 := by omega
        have hjt : ((j : Int) + 1).toNat = j + 1 := by omega
        rcases Bool.eq_false_or_eq_true (contB x) with hc | hc
        · have hc1 : (128 : Int) ≤ (x.toNat : Int) ∧ (x.toNat : Int) ≤ 191 := by simp [contB] at hc; omega
          obtain ⟨hc1, hc2⟩ := hc1
          have hall2 := hide (show (r.take (j + 1)).all contB = true by rw [htk, List.all_append, hall.out]; simp [hc])
          have hnx : ((accR M (r.take (j + 1)) : Nat) : Int) = (accR M (r.take j) : Nat) * 64 + (x.toNat : Int) - 128 := by rw [hnext]; omega
          have HNX := hide hnx
          have HT := hide (And.intro htk hrx)
          clear hnext htk hrx hc hnx
          generalize accR M (r.take j) = C at hbd HNX ⊢
          have hC0 : (0 : Int) ≤ (C : Int) := by omega
          have hC1 : (C : Int) < 33554432 := by omega
          have d1 : decide ((x.toNat : Int) < 128) = false := by simp; omega
          have d2 : decide ((191 : Int) < (x.toNat : Int)) = false := by simp; omega
          have hx0 : (x.toNat : Int) < 256 := by have := x.toNat_lt; omega
          have w1 : IntKind.i64.wrap ((C : Int) * 64) = (C : Int) * 64 := IntWalk.i64_in _ (by omega)
          have w2 : IntKind.i64.wrap ((C : Int) * 64 + (x.toNat : Int)) = (C : Int) * 64 + (x.toNat : Int) := IntWalk.i64_in _ (by omega)
          have w3 : IntKind.i64.wrap ((C : Int) * 64 + (x.toNat : Int) - 128) = (C : Int) * 64 + (x.toNat : Int) - 128 := IntWalk.i64_in _ (by omega)
          clear hbd hj0 hjt hC1
          go_wp2_with fail
          clear w1 w2 w3
          go_round
          case rel => exact ⟨j + 1, by go_num, by omega, by rw [HNX.out], hall2⟩
          case measure => simp [intOf]; omega
        · have hdn : decN 4 M b (r.take (4 - 1)) = (-1, 1) := by
            unfold decN
            rw [if_pos]
            rw [List.all_eq_false]
            refine ⟨x, ?_, by simp [hc]⟩
            rw [List.mem_iff_getElem?]
            exact ⟨j, by rw [List.getElem?_take, if_pos (by omega)]; exact hrx⟩
          have HF := hide hdn
          have HT := hide (And.intro htk hrx)
          clear hnext htk hrx hdn hbd
          by_cases hc1 : (x.toNat : Int) < 128
          · clear hc
            go_wp2_with fail
            go_ret2
            exact ⟨by rw [HF.out]; rfl, hB⟩
          · have hc2 : (191 : Int) < (x.toNat : Int) := by simp [contB] at hc; omega
            have d1 : decide ((x.toNat : Int) < 128) = false := by simpa using hc1
            clear hc hc1
            go_wp2_with fail
            go_ret2
            exact ⟨by rw [HF.out]; rfl, hB⟩
      · have hj2 : j = 4 - 1 := by omega
        subst hj2
        have hex : ((⟨l.toArray⟩ : ByteArray).extract 0 4).toList = b :: r.take (4 - 1) := by
          rw [Lib.extract_toList, H.out.1]; simp
        have HEX := hide hex
        clear hex
        have hdn : decN 4 M b (r.take (4 - 1)) = show Int × Nat from if badC (accR M (r.take (4 - 1)) : Nat) = false ∧ encR (accR M (r.take (4 - 1))) = b :: r.take (4 - 1) then ((accR M (r.take (4 - 1)) : Nat), 4) else (-1, 1) := by
          unfold decN
          rw [if_neg (by rw [hall.out]; decide)]
        have HD := hide hdn
        clear hdn hall
        generalize accR M (r.take (4 - 1)) = C at hbd HD ⊢
        rcases Bool.eq_false_or_eq_true (badC (C : Int)) with hc | hc
        · have HF := hide (show decN 4 M b (r.take (4 - 1)) = (-1, 1) by rw [HD.out, if_neg (by rw [hc]; simp)])
          have cE := hide (fun w => encode_bad (C : Int) hc w)
          clear hc
          go_wp2_with (go_at_call 56; refine (cE.out _).mono ?_; rintro e w2 ⟨rfl, rfl⟩)
          go_ret2
          exact ⟨by rw [HF.out]; rfl, hB⟩
        · have cE := hide (fun w => encode_ok C hc w)
          by_cases heq : encR C = b :: r.take (4 - 1)
          · have HF := hide (show decN 4 M b (r.take (4 - 1)) = ((C : Int), 4) by rw [HD.out, if_pos ⟨hc, heq⟩])
            have hq : (encR C == ((⟨l.toArray⟩ : ByteArray).extract 0 4).toList) = true := by rw [HEX.out, heq]; simp
            have HQ := hide (And.intro hc heq)
            clear hc heq
            go_wp2_with (go_at_call 56; refine (cE.out _).mono ?_; rintro e w2 ⟨rfl, hb2⟩)
            go_ret2
            exact ⟨by rw [HF.out]; rfl, hB.trans (hb2.mono hB.size)⟩
          · have HF := hide (show decN 4 M b (r.take (4 - 1)) = (-1, 1) by rw [HD.out, if_neg (by rintro ⟨_, h⟩; exact heq h)])
            have hq : (encR C == ((⟨l.toArray⟩ : ByteArray).extract 0 4).toList) = false := by rw [HEX.out]; simpa using heq
            have HQ := hide (And.intro hc heq)
            clear hc heq
            go_wp2_with (go_at_call 56; refine (cE.out _).mono ?_; rintro e w2 ⟨rfl, hb2⟩)
            go_ret2
            exact ⟨by rw [HF.out]; rfl, hB.trans (hb2.mono hB.size)⟩
set_option maxHeartbeats 400000 in
theorem decode_nil (w : World) : Calls Tryd.prog 80 #[.string ⟨#[]⟩] w fun e w' => e = .returned (.tuple #[.int .i64 (-1), .int .i64 0]) ∧ w = w' := by
  go_enter Tryd.func80, Tryd.ntmps80
  go_wp2_with fail
  go_ret2
  exact ⟨rfl, rfl⟩
/-- muslinref01.Decode. -/
theorem refDecode_any (l : List UInt8) (w : World) (hz : l.length ≤ 4611686018427387903) :
    Calls Tryd.prog 80 #[.string ⟨l.toArray⟩] w fun e w' => e = .returned (.tuple #[.int .i64 (decR l).1, .int .i64 ((decR l).2 : Int)]) ∧ Below w.heap.size w w' := by
  match hl : l with
  | [] => exact (decode_nil w).mono fun e w' ⟨he, hw⟩ => ⟨he, by subst hw; exact Below.refl _ _⟩
  | b :: r =>
    by_cases h : sizeR b = 0 ∨ r.length + 1 < sizeR b
    · have e : decR (b :: r) = (-1, 1) := by rw [decR_cons, if_pos h]
      rw [e]
      exact decode_short _ b r rfl h w hz
    · have h4 := sizeR_le b
      have hn : sizeR b = 1 ∨ sizeR b = 2 ∨ sizeR b = 3 ∨ sizeR b = 4 := by omega
      rcases hn with hn | hn | hn | hn
      · rw [decR_decN b r 1 128 hn (by omega) (by omega) rfl]
        exact decode_long 1 128 (by omega) _ b r rfl hn (by omega) w hz
      · rw [decR_decN b r 2 32 hn (by omega) (by omega) rfl]
        exact decode_long 2 32 (by omega) _ b r rfl hn (by omega) w hz
      · rw [decR_decN b r 3 16 hn (by omega) (by omega) rfl]
        exact decode_long 3 16 (by omega) _ b r rfl hn (by omega) w hz
      · rw [decR_decN b r 4 8 hn (by omega) (by omega) rfl]
        exact decode_long 4 8 (by omega) _ b r rfl hn (by omega) w hz
end Go.Proofs.YtdnmgpidfjkiaaaDoor
