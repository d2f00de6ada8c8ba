/-
  utf.Encode; jstext.hex, unit, one, at what literal.Quote writes.
-/
import Derived.Test.YtdnmgpidfjkiaaaDoorEach
import Derived.Test.YtdnmgpidfjkiaaaDoorM5
import Derived.Test.YtdnmgpidfjkiaaaDoorPctDec
import Derived.Test.YtdnmgpidfjkiaaaDoorM1
namespace Go.Proofs.YtdnmgpidfjkiaaaDoor
open Go.RowKit
set_option linter.unusedVariables false
set_option linter.unusedSimpArgs false

theorem wrap32 {c : Int} (h : badC c = false) : IntKind.i32.wrap c = c := by
  have := good_nat h
  unfold IntKind.wrap
  simp [IntKind.bits]
  omega
theorem validRune_good {c : Int} (h : badC c = false) : Lib.validRune c = true := by
  unfold badC at h
  simp at h
  unfold Lib.validRune
  simp
  omega
theorem below_grown {w w' : World} {o : Obj} {v : Value} (hg : (w.alloc o).grownBy w' v.ownBlock) (hv : ∀ k, v.ownBlock = some k → w.heap.size ≤ k) : Below w.heap.size w w' :=
  ((Below.refl _ w).alloc (Nat.le_refl _) o).grown hg (by simp) hv
set_option maxHeartbeats 1000000 in
set_option maxRecDepth 100000 in
theorem utfEncode_good (c : Int) (h : badC c = false) (w : World) :
    Calls Tryd.prog 99 #[.int .i64 c] w fun e w' => e = .returned (.tuple #[.string ⟨(encL c).toArray⟩, .int .i64 0]) ∧ Below w.heap.size w w' := by
  have hg := good_nat h
  have h0 : decide (c < 0) = false := by simp; omega
  have h1 : decide (1114111 < c) = false := by simp; omega
  have hw := wrap32 h
  have cV := (Tryd.utf8_ValidRune c w).mono (R' := fun e w' => e = .returned (.bool (Lib.validRune c)) ∧ w = w') fun e w' h => ⟨h.1, h.2.symm⟩
  rw [validRune_good h] at cV
  have cA := Tryd.utf8_AppendRune_plain w.heap.size (.slice none 0 0) 0 [] c (by omega) (by omega) w (World.ownsRow_nil _ _ _ _) (by omega) (Nat.le_refl _)
  rw [runeCells_good h] at cA
  have cV := hide cV; have cA := hide cA
  clear h hg
  go_enter Tryd.func99, Tryd.ntmps99
  go_wp2_with (first
    | (go_at_call 127; refine (cV.out).mono ?_; rintro e w1 ⟨rfl, rfl⟩)
    | (go_at_call 128; refine (cA.out).mono ?_))
  rintro e w2 ⟨v', rfl, hown, o, hgrow⟩
  have hb : Below w.heap.size w w2 := below_grown hgrow (by intro k e; cases e)
  have hcv := conv_ownR (w := w2) (base := w.heap.size) (v := v') (n := _) (l := encL c) (by simpa [Lib.byteCells, bv] using hown)
  clear hown hgrow
  go_wp2_with fail
  go_ret2
  exact ⟨rfl, hb⟩
theorem cut_four (l : List UInt8) (k : Nat) : (⟨l.toArray⟩ : ByteArray).extract k (k + 4) = ⟨((l.drop k).take 4).toArray⟩ := by
  rw [Lib.extract_mk]
  rw [show k + 4 - k = 4 by omega]
theorem drop_len {l : List UInt8} {k : Nat} {p r : List UInt8} (h : l.drop k = p ++ r) : k + p.length + r.length ≤ l.length ∨ (p = [] ∧ r = []) := by
  have := congrArg List.length h
  rw [List.length_drop, List.length_append] at this
  by_cases hp : p.length + r.length = 0
  · right
    exact ⟨List.eq_nil_of_length_eq_zero (by omega), List.eq_nil_of_length_eq_zero (by omega)⟩
  · left; omega
set_option maxHeartbeats 1000000 in
set_option maxRecDepth 100000 in
theorem jsHex_four (l : List UInt8) (k n : Nat) (rest : List UInt8) (a : Int) (ha : a = (k : Int)) (h : l.drop k = pHex (n : Int) 4 ++ rest) (hn : n < 65536) (w : World) (hz : l.length ≤ 100000000000) :
    Calls Tryd.prog 110 #[.string ⟨l.toArray⟩, .int .i64 a, .int .i64 4] w fun e w' => e = .returned (.tuple #[.int .i64 (n : Int), .bool true]) ∧ Below w.heap.size w w' := by
  subst ha
  have h4 := pHex4_len (n : Int)
  have hl : k + 4 ≤ l.length := by
    rcases drop_len h with h1 | h1
    · omega
    · rw [h1.1] at h4; simp at h4
  have cU := fun w => unhexL_any (pHex (n : Int) 4) w (by omega)
  rw [pUnhex4 n hn] at cU
  have ht : (l.drop k).take 4 = pHex (n : Int) 4 := by rw [h, ← h4, List.take_left]
  rw [← ht, ← cut_four] at cU
  have g1 : decide ((l.length : Int) - (k : Int) < 4) = false := by simp; omega
  have g3 : (k : Int) + 4 ≤ (l.length : Int) := by omega
  have cU := hide cU
  clear h ht h4
  go_enter Tryd.func110, Tryd.ntmps110
  go_wp2_with (go_at_call 125; refine (cU.out _).mono ?_; rintro e w1 ⟨rfl, hb1⟩)
  go_ret2
  exact ⟨rfl, hb1⟩
theorem drop_more {l : List UInt8} {k : Nat} {p r : List UInt8} {d : Nat} (h : l.drop k = p ++ r) (hp : p.length = d) : l.drop (k + d) = r := by
  rw [← List.drop_drop, h, ← hp, List.drop_left]
set_option maxHeartbeats 1000000 in
set_option maxRecDepth 100000 in
theorem jsUnit_single (l : List UInt8) (k n : Nat) (rest : List UInt8) (h : l.drop k = uniR n ++ rest) (hn : n < 65536) (hs : n < 55296 ∨ 57343 < n) (w : World) (hz : l.length ≤ 100000000000) :
    Calls Tryd.prog 109 #[.string ⟨l.toArray⟩, .int .i64 (k : Int)] w fun e w' => e = .returned (.tuple #[.int .i64 (n : Int), .int .i64 6, .bool true]) ∧ Below w.heap.size w w' := by
  have hl : k + 6 ≤ l.length := by
    have h6 := uniR_len n
    rcases drop_len h with h1 | h1
    · omega
    · rw [h1.1] at h6; simp at h6
  have h2 : l.drop (k + 2) = pHex (n : Int) 4 ++ rest := by
    refine drop_more (p := [92, 117]) ?_ rfl
    rw [h]; unfold uniR; simp
  have cH := hide (fun w => jsHex_four l (k + 2) n rest ((k : Int) + 2) (by simp) h2 hn w hz)
  have hki : (k : Int) + 6 ≤ (l.length : Int) := by omega
  have hzi : (l.length : Int) ≤ 100000000000 := by omega
  clear h h2
  rcases hs with hs | hs
  · have g1 : decide (55296 ≤ (n : Int)) = false := by simp; omega
    clear hs
    go_enter Tryd.func109, Tryd.ntmps109
    go_wp2_with (go_at_call 110; refine (cH.out _).mono ?_; rintro e w1 ⟨rfl, hb1⟩)
    go_ret3
    exact ⟨rfl, hb1⟩
  · have g1 : decide (55296 ≤ (n : Int)) = true := by simp; omega
    have g2 : decide ((n : Int) < 56320) = false := by simp; omega
    have g3 : decide ((n : Int) ≤ 57343) = false := by simp; omega
    clear hs
    go_enter Tryd.func109, Tryd.ntmps109
    go_wp2_with (go_at_call 110; refine (cH.out _).mono ?_; rintro e w1 ⟨rfl, hb1⟩)
    go_ret3
    exact ⟨rfl, hb1⟩
theorem drop_strK (l : List UInt8) (k : Nat) : (⟨l.toArray⟩ : ByteArray).extract k l.length = ⟨(l.drop k).toArray⟩ := by
  have := Lib.extract_from (⟨l.toArray⟩ : ByteArray) k
  rw [mk_size] at this
  exact this
set_option maxHeartbeats 2000000 in
set_option maxRecDepth 100000 in
theorem jsUnit_pair (l : List UInt8) (k hi lo : Nat) (rest : List UInt8) (h : l.drop k = uniR hi ++ (uniR lo ++ rest)) (hh : 55296 ≤ hi ∧ hi < 56320) (hw : 56320 ≤ lo ∧ lo ≤ 57343) (w : World) (hz : l.length ≤ 100000000000) :
    Calls Tryd.prog 109 #[.string ⟨l.toArray⟩, .int .i64 (k : Int)] w fun e w' => e = .returned (.tuple #[.int .i64 (((hi - 55296) * 1024 + 65536 + (lo - 56320) : Nat) : Int), .int .i64 12, .bool true]) ∧ Below w.heap.size w w' := by
  have h6 : l.drop (k + 6) = uniR lo ++ rest := drop_more h (uniR_len hi)
  have hl : k + 12 ≤ l.length := by
    have h6' := uniR_len lo
    rcases drop_len h6 with h1 | h1
    · omega
    · rw [h1.1] at h6'; simp at h6'
  have h2 : l.drop (k + 2) = pHex (hi : Int) 4 ++ (uniR lo ++ rest) := by
    refine drop_more (p := [92, 117]) ?_ rfl
    rw [h]; unfold uniR; simp
  have h8 : l.drop (k + 8) = pHex (lo : Int) 4 ++ rest := by
    refine drop_more (p := [92, 117]) (k := k + 6) ?_ rfl
    rw [h6]; unfold uniR; simp
  have cH := hide (fun w => jsHex_four l (k + 2) hi _ ((k : Int) + 2) (by simp) h2 (by omega) w hz)
  have cL := hide (fun w => jsHex_four l (k + 8) lo _ ((k : Int) + 8) (by simp) h8 (by omega) w hz)
  have cP := fun w => Tryd.strings_HasPrefix ((⟨l.toArray⟩ : ByteArray).extract (k + 6) l.length) ⟨#[92, 117]⟩ w
  have hpx : Lib.hasPrefix ((⟨l.toArray⟩ : ByteArray).extract (k + 6) l.length).data.toList (⟨#[92, 117]⟩ : ByteArray).data.toList = true := by
    rw [drop_strK, h6]
    unfold uniR
    simp [Lib.hasPrefix]
  rw [hpx] at cP
  have cP := hide cP
  have hki : (k : Int) + 12 ≤ (l.length : Int) := by omega
  have hzi : (l.length : Int) ≤ 100000000000 := by omega
  have hres : (((hi - 55296) * 1024 + 65536 + (lo - 56320) : Nat) : Int) = 65536 + ((hi : Int) - 55296) * 1024 + (lo : Int) - 56320 := by omega
  obtain ⟨a1, a2⟩ := hh
  obtain ⟨b1, b2⟩ := hw
  have g1 : (55296 : Int) ≤ (hi : Int) := by omega
  have g2 : (hi : Int) < 56320 := by omega
  have g3 : (56320 : Int) ≤ (lo : Int) := by omega
  have g4 : (lo : Int) ≤ 57343 := by omega
  rw [hres]
  clear h h2 h6 h8 hpx hres a1 a2 b1 b2
  go_enter Tryd.func109, Tryd.ntmps109
  go_wp2_with fail
  refine (cH.out _).mono ?_
  rintro e w1 ⟨rfl, hb1⟩
  go_wp2_with (go_at_call 59; refine (cP.out _).mono ?_; rintro e w2 ⟨rfl, rfl⟩)
  refine (cL.out _).mono ?_
  rintro e w3 ⟨rfl, hb2⟩
  go_wp2_with fail
  go_ret3
  exact ⟨by first | rfl | simp, below_step hb1 hb2⟩
theorem quoteC_uni {m : Nat} (hp : plainC m = false) : ∃ r, quoteC m = 92 :: 117 :: r := by
  unfold quoteC
  rw [hp, if_neg Bool.false_ne_true]
  split
  · exact ⟨_, rfl⟩
  · exact ⟨_, rfl⟩
theorem jsUnit_char (l : List UInt8) (k m : Nat) (rest : List UInt8) (h : l.drop k = quoteC m ++ rest) (hp : plainC m = false) (hg : badC (m : Int) = false) (w : World) (hz : l.length ≤ 100000000000) :
    Calls Tryd.prog 109 #[.string ⟨l.toArray⟩, .int .i64 (k : Int)] w fun e w' => e = .returned (.tuple #[.int .i64 (m : Int), .int .i64 ((quoteC m).length : Int), .bool true]) ∧ Below w.heap.size w w' := by
  have hb : m ≤ 1114111 ∧ (m < 55296 ∨ 57343 < m) := by unfold badC at hg; simp at hg; omega
  by_cases h1 : 65535 < m
  · have hq : quoteC m = uniR (55296 + (m - 65536) / 1024) ++ uniR (56320 + (m - 65536) % 1024) := by unfold quoteC; rw [hp, if_neg Bool.false_ne_true, if_pos h1]
    have h12 : (quoteC m).length = 12 := by rw [hq, List.length_append, uniR_len, uniR_len]
    rw [hq, List.append_assoc] at h
    have := jsUnit_pair l k _ _ rest h (by omega) (by omega) w hz
    rw [show (55296 + (m - 65536) / 1024 - 55296) * 1024 + 65536 + (56320 + (m - 65536) % 1024 - 56320) = m by omega] at this
    rw [h12]
    exact this
  · have hq : quoteC m = uniR m := by unfold quoteC; rw [hp, if_neg Bool.false_ne_true, if_neg h1]
    rw [hq] at h
    rw [hq, uniR_len]
    exact jsUnit_single l k m rest h (by omega) hb.2 w hz
set_option maxHeartbeats 1000000 in
set_option maxRecDepth 100000 in
theorem jsOne_char (l : List UInt8) (k m : Nat) (rest : List UInt8) (h : l.drop k = quoteC m ++ rest) (hp : plainC m = false) (hg : badC (m : Int) = false) (w : World) (hz : l.length ≤ 100000000000) :
    Calls Tryd.prog 83 #[.string ⟨l.toArray⟩, .int .i64 (k : Int)] w fun e w' => e = .returned (.tuple #[.string ⟨(encL (m : Int)).toArray⟩, .int .i64 ((quoteC m).length : Int), .bool true]) ∧ Below w.heap.size w w' := by
  have cU := hide (fun w => jsUnit_char l k m rest h hp hg w hz)
  have cE := hide (fun w => utfEncode_good (m : Int) hg w)
  obtain ⟨r, hr⟩ := quoteC_uni hp
  have h1 : l.drop (k + 1) = 117 :: (r ++ rest) := by
    refine drop_more (p := [92]) ?_ rfl
    rw [h, hr]; rfl
  have hlt : k + 1 < l.length := by
    have := congrArg List.length h1
    rw [List.length_drop] at this
    simp at this; omega
  have hlz : k + 1 < (⟨l.toArray⟩ : ByteArray).size := by rw [mk_size]; exact hlt
  have hx : (⟨l.toArray⟩ : ByteArray)[k + 1]'hlz = 117 := by
    show l[k + 1] = 117
    have := List.drop_eq_getElem_cons hlt
    rw [h1] at this
    exact (List.cons.inj this).1.symm
  have hki : (k : Int) + 1 < (l.length : Int) := by omega
  have hzi : (l.length : Int) ≤ 100000000000 := by omega
  generalize quoteC m = q at cU ⊢
  clear h hr h1 hp
  go_enter Tryd.func83, Tryd.ntmps83
  go_wp2_with (first
    | (go_at_call 109; refine (cU.out _).mono ?_; rintro e w1 ⟨rfl, hb1⟩)
    | (go_at_call 99; refine (cE.out _).mono ?_; rintro e w2 ⟨rfl, hb2⟩))
  go_ret3
  exact ⟨rfl, below_step hb1 hb2⟩
set_option maxHeartbeats 1000000 in
theorem jsOne_end (l : List UInt8) (k : Nat) (h : l.length ≤ k + 1) (w : World) (hz : k ≤ 100000000000) :
    Calls Tryd.prog 83 #[.string ⟨l.toArray⟩, .int .i64 (k : Int)] w fun e w' => e = .returned (.tuple #[.string ⟨#[]⟩, .int .i64 0, .bool false]) ∧ Below w.heap.size w w' := by
  have hki : (l.length : Int) ≤ (k : Int) + 1 := by omega
  have hzi : (k : Int) ≤ 100000000000 := by omega
  go_enter Tryd.func83, Tryd.ntmps83
  go_wp2_with fail
  go_ret3
  exact ⟨rfl, Below.refl _ _⟩
end Go.Proofs.YtdnmgpidfjkiaaaDoor
