/-
  muslinref04.Literal of any value.
-/
import Derived.Test.YtdnmgpidfjkiaaaDoorM2
import Derived.Test.YtdnmgpidfjkiaaaDoorInside
import Derived.Test.YtdnmgpidfjkiaaaDoorRefPrint
namespace Go.Proofs.YtdnmgpidfjkiaaaDoor
open Go.RowKit
set_option linter.unusedVariables false
set_option linter.unusedSimpArgs false

set_option maxHeartbeats 400000 in
set_option maxRecDepth 100000 in
theorem refQuote_any (l : List UInt8) (w : World) (hz : l.length ≤ 1000000000) :
    Calls Tryd.prog 40 #[.string ⟨l.toArray⟩] w fun e w' => e = .returned (.string ⟨(quoteL l).toArray⟩) ∧ Below w.heap.size w w' := by
  have cI := fun w => inside_any l w hz
  have hl := escR_len l
  have hq : (⟨(quoteL l).toArray⟩ : ByteArray) = (⟨#[34]⟩ : ByteArray) ++ ⟨(escR l).toArray⟩ ++ (⟨#[34]⟩ : ByteArray) := by
    apply ByteArray.ext; simp [quoteL]
  rw [hq]
  have hm : (⟨(escR l).toArray⟩ : ByteArray).size ≤ 12000000000 := by rw [mk_size]; omega
  generalize (⟨(escR l).toArray⟩ : ByteArray) = X at cI hm ⊢
  have cI := hide cI
  have hmi : (X.size : Int) ≤ 12000000000 := by omega
  clear hq hl
  go_enter Tryd.func40, Tryd.ntmps40
  go_wp2_with (go_at_call 26; refine (cI.out _).mono ?_; rintro e w1 ⟨rfl, hb⟩)
  go_ret
  exact ⟨rfl, hb⟩
set_option maxHeartbeats 400000 in
set_option maxRecDepth 100000 in
theorem printLow (k : Int) (t : List UInt8) (w : World) (h : (k = 0 ∧ t = [110, 117, 108, 108]) ∨ (k = 1 ∧ t = [102, 97, 108, 115, 101]) ∨ (k = 2 ∧ t = [116, 114, 117, 101])) :
    Calls Tryd.prog 38 #[valV k 0 ⟨#[]⟩ none 0 0 none 0 0] w fun e w' => e = .returned (.string ⟨t.toArray⟩) ∧ Below w.heap.size w w' := by
  rcases h with ⟨rfl, rfl⟩ | ⟨rfl, rfl⟩ | ⟨rfl, rfl⟩
  all_goals
    go_enter Tryd.func38, Tryd.ntmps38
    go_wp2_with fail
    go_ret
    exact ⟨rfl, (Below.refl _ _).alloc (Nat.le_refl _) _⟩
set_option maxHeartbeats 400000 in
set_option maxRecDepth 100000 in
theorem lit_low (k i : Int) (s : ByteArray) (a b : Option Addr) (m c p e : Nat) (t : List UInt8) (w : World) (h : (k = 0 ∧ t = [110, 117, 108, 108]) ∨ (k = 1 ∧ t = [102, 97, 108, 115, 101]) ∨ (k = 2 ∧ t = [116, 114, 117, 101])) :
    Calls Tryd.prog 14 #[valV k i s a m c b p e] w fun e w' => e = .returned (.string ⟨t.toArray⟩) ∧ Below w.heap.size w w' := by
  have cP := hide (fun w => printLow k t w h)
  have hB := (Below.refl w.heap.size w).alloc (Nat.le_refl _) (.cells #[.int .i64 k, .int .i64 i, .string s, .slice a m c, .slice b p e] 26)
  rcases h with ⟨rfl, rfl⟩ | ⟨rfl, rfl⟩ | ⟨rfl, rfl⟩
  all_goals
    go_enter Tryd.func14, Tryd.ntmps14
    go_wp2_with (go_at_call 38; refine (cP.out _).mono ?_; rintro e w1 ⟨rfl, hb⟩)
    go_ret
    exact ⟨rfl, hB.trans (hb.mono (by simp))⟩
set_option maxHeartbeats 1000000 in
set_option maxRecDepth 100000 in
theorem lit_three (i : Int) (s : ByteArray) (a b : Option Addr) (m c p e : Nat) (w : World) (lo : -9223372036854775808 ≤ i) (hi : i ≤ 9223372036854775807) :
    Calls Tryd.prog 14 #[valV 3 i s a m c b p e] w fun e w' => e = .returned (.string ⟨(if i < 0 then 32 :: pInt i else pInt i).toArray⟩) ∧ Below w.heap.size w w' := by
  have cI := fun w => refPrint_any i w lo hi
  have hl := pInt_le22 i lo hi
  have hB := (Below.refl w.heap.size w).alloc (Nat.le_refl _) (.cells #[.int .i64 3, .int .i64 i, .string s, .slice a m c, .slice b p e] 26)
  by_cases h0 : i < 0
  · rw [if_pos h0]
    have hq : (⟨(32 :: pInt i).toArray⟩ : ByteArray) = (⟨#[32]⟩ : ByteArray) ++ ⟨(pInt i).toArray⟩ := by apply ByteArray.ext; simp
    rw [hq]
    have hm : (⟨(pInt i).toArray⟩ : ByteArray).size ≤ 21 := by rw [mk_size]; omega
    generalize (⟨(pInt i).toArray⟩ : ByteArray) = X at cI hm ⊢
    have cI := hide cI
    have hmi : (X.size : Int) ≤ 21 := by omega
    have hd : decide (i < 0) = true := decide_eq_true h0
    clear hq hl
    go_enter Tryd.func14, Tryd.ntmps14
    go_wp2_with (go_at_call 39; refine (cI.out _).mono ?_; rintro e w1 ⟨rfl, rfl⟩)
    go_ret
    exact ⟨rfl, hB⟩
  · rw [if_neg h0]
    have cI := hide cI
    have hd : decide (i < 0) = false := decide_eq_false h0
    go_enter Tryd.func14, Tryd.ntmps14
    go_wp2_with (go_at_call 39; refine (cI.out _).mono ?_; rintro e w1 ⟨rfl, rfl⟩)
    go_ret
    exact ⟨rfl, hB⟩
set_option maxHeartbeats 1000000 in
set_option maxRecDepth 100000 in
theorem lit_else (k i : Int) (s : List UInt8) (a b : Option Addr) (m c p e : Nat) (w : World) (h : k < 0 ∨ k = 4 ∨ 7 ≤ k) (hz : s.length ≤ 1000000000) :
    Calls Tryd.prog 14 #[valV k i ⟨s.toArray⟩ a m c b p e] w fun e w' => e = .returned (.string ⟨(quoteL s).toArray⟩) ∧ Below w.heap.size w w' := by
  have h0 : (k == 0) = false := by rw [beq_eq_false_iff_ne]; omega
  have h1 : (k == 1) = false := by rw [beq_eq_false_iff_ne]; omega
  have h2 : (k == 2) = false := by rw [beq_eq_false_iff_ne]; omega
  have h3 : (k == 3) = false := by rw [beq_eq_false_iff_ne]; omega
  have h5 : (k == 5) = false := by rw [beq_eq_false_iff_ne]; omega
  have h6 : (k == 6) = false := by rw [beq_eq_false_iff_ne]; omega
  have cQ := hide (fun w => refQuote_any s w hz)
  have hB := (Below.refl w.heap.size w).alloc (Nat.le_refl _) (.cells #[.int .i64 k, .int .i64 i, .string ⟨s.toArray⟩, .slice a m c, .slice b p e] 26)
  clear h
  go_enter Tryd.func14, Tryd.ntmps14
  go_wp2_with (go_at_call 40; refine (cQ.out _).mono ?_; rintro e w1 ⟨rfl, hb⟩)
  go_ret
  exact ⟨rfl, hB.trans (hb.mono (by simp))⟩
theorem mk_app3 (a b c : List UInt8) : (⟨(a ++ (b ++ c)).toArray⟩ : ByteArray) = ⟨a.toArray⟩ ++ ⟨b.toArray⟩ ++ ⟨c.toArray⟩ := by apply ByteArray.ext; simp
set_option maxHeartbeats 4000000 in
set_option maxRecDepth 100000 in
theorem lit_list {n : Nat} (i : Int) (s : ByteArray) (l : List (VT n)) (ks : List (List UInt8)) (a b : Option Addr) (c e : Nat) (w : World) (hS : StrsAt anyB w b ks) (hL : ValsAt anyB w (IsV anyB w n) a l) (hz2 : l.length * 80 ≤ 140737488351232) (hz3 : ks.length * 16 ≤ 140737488351232) (hk : ∀ k ∈ ks, k.length ≤ 1000000000)
    (hT : (bodyC (fun _ => []) 0 (l.map (litR n))).length ≤ 100000000000)
    (ih : ∀ (v : Value) (x : VT n) (W : World), x ∈ l → IsV anyB W n v x → Calls Tryd.prog 14 #[v] W fun e w' => e = .returned (.string ⟨(litR n x).toArray⟩) ∧ Below W.heap.size W w') :
    Calls Tryd.prog 14 #[valV 5 i s a l.length c b ks.length e] w fun e w' => e = .returned (.string ⟨(91 :: (bodyC (fun _ => []) 0 (l.map (litR n)) ++ [93])).toArray⟩) ∧ Below w.heap.size w w' := by
  have hQ : (⟨(91 :: (bodyC (fun _ => []) 0 (l.map (litR n)) ++ [93])).toArray⟩ : ByteArray) = (⟨#[91]⟩ : ByteArray) ++ ⟨(bodyC (fun _ => []) 0 (l.map (litR n))).toArray⟩ ++ (⟨#[93]⟩ : ByteArray) := by apply ByteArray.ext; simp
  rw [hQ]
  obtain ⟨R, hR⟩ : ∃ R : ByteArray, (⟨(bodyC (fun _ => []) 0 (l.map (litR n))).toArray⟩ : ByteArray) = R := ⟨_, rfl⟩
  rw [hR]
  have hRs : R.size ≤ 100000000000 := by rw [← hR, mk_size]; exact hT
  have hle := fun j => bodyC_le (fun _ => []) (l.map (litR n)) j
  have hB0 := (Below.refl w.heap.size w).alloc (Nat.le_refl _) (.cells #[.int .i64 5, .int .i64 i, .string s, .slice a l.length c, .slice b ks.length e] 26)
  have hK0 := Blk.new w 26 #[.int .i64 5, .int .i64 i, .string s, .slice a l.length c, .slice b ks.length e]
  have HR := hide hR; have HS := hide hS; have HL := hide hL; have HT := hide hT; have HLE := hide hle; have IH := hide ih; have HK := hide hk
  clear hR hS hL hT hle ih hQ hk
  go_enter Tryd.func14, Tryd.ntmps14
  go_wp2_with fail
  generalize w.alloc (.cells #[.int .i64 5, .int .i64 i, .string s, .slice a l.length c, .slice b ks.length e] 26) = W at hB0 hK0 ⊢
  go_loopw [3, 4] (fun ov iv wr => ∃ (j : Nat) (X : ByteArray), ov = .string X ∧ iv = .int .i64 (j : Int) ∧ j ≤ l.length ∧ X.size ≤ 100000000000 ∧ Below w.heap.size w wr ∧ Hid (Blk wr w.heap.size 26 #[.int .i64 5, .int .i64 i, .string s, .slice a l.length c, .slice b ks.length e]) ∧ Hid (X = ⟨(bodyC (fun _ => []) 0 ((l.map (litR n)).take j)).toArray⟩)) (fun _ iv _ => l.length - (intOf iv).toNat)
  case atStart => exact ⟨0, ⟨#[]⟩, rfl, rfl, Nat.zero_le _, by decide, hB0, hide hK0, rfl⟩
  case round =>
    obtain ⟨j, X, rfl, rfl, hjl, hXs, hB, hK, hX⟩ := hrel
    clear hB0 hK0
    have k0 := hK.out.cell 0; have k3 := hK.out.cell 3; have k4 := hK.out.cell 4
    simp at k0 k3 k4
    have zk := hK.out.lt
    by_cases hlt : j < l.length
    · obtain ⟨y, hy⟩ : ∃ y, l[j]? = some y := ⟨_, List.getElem?_eq_getElem hlt⟩
      obtain ⟨g1, o1, he1, hg1, _, k2, i2, s2, a1, n1, d1, a2, n2, d2, h5, hV⟩ := HL.out j y hy
      subst he1
      have hst := stays_any hB
      obtain ⟨f0, f1, f2, f3, f4⟩ := h5.on (hB.block g1 hg1)
      have hV := IsV.on hst n _ _ hV
      have cI := hide (fun W (h : Below wr.heap.size wr W) => IH.out _ y W (List.mem_of_getElem? hy) (IsV.on (stays_any h) n _ _ hV))
      have hp : (l.map (litR n))[j]? = some (litR n y) := by rw [List.getElem?_map, hy]; rfl
      have hnx := bodyC_next (fun _ => []) (l.map (litR n)) j (litR n y) hp
      have hle1 := HLE.out (j + 1)
      have hxl : X.size = (bodyC (fun _ => []) 0 ((l.map (litR n)).take j)).length := by rw [hX.out, mk_size]
      have hlen := congrArg List.length hnx
      simp only [List.length_append] at hlen
      have hT1 := HT.out
      have hg1r : g1 < wr.heap.size := Nat.lt_of_lt_of_le hg1 hB.size
      have hji : (j : Int) < (l.length : Int) := by omega
      rcases Nat.eq_zero_or_pos j with h0 | h0
      · subst h0
        simp only [Nat.zero_mul, Nat.add_zero] at f0 f1 f2 f3 f4
        have HX2 := hide (show X ++ ⟨(litR n y).toArray⟩ = ⟨(bodyC (fun _ => []) 0 ((l.map (litR n)).take (0 + 1))).toArray⟩ by
          rw [hnx, hX.out]; apply ByteArray.ext; simp)
        have hPs : (⟨(litR n y).toArray⟩ : ByteArray).size = (litR n y).length := mk_size _
        have hXP : X.size + (⟨(litR n y).toArray⟩ : ByteArray).size ≤ 100000000000 := by rw [hPs]; rw [if_pos rfl] at hlen; simp only [List.length_nil] at hlen; omega
        generalize (⟨(litR n y).toArray⟩ : ByteArray) = P at cI HX2 hXP
        have hzi : (X.size : Int) + (P.size : Int) ≤ 100000000000 := by omega
        have hz0 : decide ((0 : Int) < ((0 : Nat) : Int)) = false := rfl
        have hX2 : (X ++ P).size = X.size + P.size := ByteArray.size_append
        clear hnx hlen hle1 hxl hT1 hX hPs hp hy hV h5
        go_wp2_with (go_at_call 14; refine (cI.out _ (Below.refl _ _)).mono ?_; rintro e w2 ⟨rfl, hb2⟩)
        have hK2 := hide (hK.out.below hb2 zk)
        go_roundw
        case rel => exact ⟨1, X ++ P, rfl, by go_num, by omega, by omega, hB.trans (hb2.mono hB.size), hK2, HX2⟩
        case measure => simp [intOf]; omega
      · have HX2 := hide (show X ++ ⟨#[44]⟩ ++ ⟨(litR n y).toArray⟩ = ⟨(bodyC (fun _ => []) 0 ((l.map (litR n)).take (j + 1))).toArray⟩ by
          rw [hnx, if_neg (by omega), hX.out]; apply ByteArray.ext; simp)
        have hPs : (⟨(litR n y).toArray⟩ : ByteArray).size = (litR n y).length := mk_size _
        have hXP : X.size + 1 + (⟨(litR n y).toArray⟩ : ByteArray).size ≤ 100000000000 := by rw [hPs]; rw [if_neg (by omega)] at hlen; simp only [List.length_nil, List.length_cons] at hlen; omega
        generalize (⟨(litR n y).toArray⟩ : ByteArray) = P at cI HX2 hXP
        have hzi : (X.size : Int) + 1 + (P.size : Int) ≤ 100000000000 := by omega
        have hz0 : decide ((0 : Int) < (j : Int)) = true := by simp; omega
        have hX2 : (X ++ ⟨#[44]⟩ ++ P : ByteArray).size = X.size + 1 + P.size := by rw [ByteArray.size_append, ByteArray.size_append]; rfl
        have hX3 : (X ++ (⟨#[44]⟩ : ByteArray)).size = X.size + 1 := by rw [ByteArray.size_append]; rfl
        clear hnx hlen hle1 hxl hT1 hX hPs hp hy hV h5
        go_wp2_with (go_at_call 14; refine (cI.out _ (Below.refl _ _)).mono ?_; rintro e w2 ⟨rfl, hb2⟩)
        have hK2 := hide (hK.out.below hb2 zk)
        go_roundw
        case rel => exact ⟨j + 1, X ++ ⟨#[44]⟩ ++ P, rfl, by go_num, by omega, by omega, hB.trans (hb2.mono hB.size), hK2, HX2⟩
        case measure => simp [intOf]; omega
    · obtain rfl : j = l.length := by omega
      have hjf : decide ((l.length : Int) < (l.length : Int)) = false := by simp
      have hXR : X = R := by rw [hX.out, ← HR.out, List.take_of_length_le (by simp)]
      subst hXR
      have hXi : (X.size : Int) ≤ 100000000000 := by omega
      clear hX
      go_wp2_with fail
      go_ret
      exact ⟨rfl, hB⟩
set_option maxHeartbeats 4000000 in
set_option maxRecDepth 100000 in
theorem lit_rec {n : Nat} (i : Int) (s : ByteArray) (l : List (VT n)) (ks : List (List UInt8)) (a b : Option Addr) (c e : Nat) (w : World) (hS : StrsAt anyB w b ks) (hL : ValsAt anyB w (IsV anyB w n) a l) (hz2 : l.length * 80 ≤ 140737488351232) (hz3 : ks.length * 16 ≤ 140737488351232) (hk : ∀ k ∈ ks, k.length ≤ 1000000000)
    (hT : (bodyC (keyC ks) 0 (l.map (litR n))).length ≤ 100000000000)
    (ih : ∀ (v : Value) (x : VT n) (W : World), x ∈ l → IsV anyB W n v x → Calls Tryd.prog 14 #[v] W fun e w' => e = .returned (.string ⟨(litR n x).toArray⟩) ∧ Below W.heap.size W w') :
    Calls Tryd.prog 14 #[valV 6 i s a l.length c b ks.length e] w fun e w' => e = .returned (.string ⟨(123 :: (bodyC (keyC ks) 0 (l.map (litR n)) ++ [125])).toArray⟩) ∧ Below w.heap.size w w' := by
  have hQ : (⟨(123 :: (bodyC (keyC ks) 0 (l.map (litR n)) ++ [125])).toArray⟩ : ByteArray) = (⟨#[123]⟩ : ByteArray) ++ ⟨(bodyC (keyC ks) 0 (l.map (litR n))).toArray⟩ ++ (⟨#[125]⟩ : ByteArray) := by apply ByteArray.ext; simp
  rw [hQ]
  obtain ⟨R, hR⟩ : ∃ R : ByteArray, (⟨(bodyC (keyC ks) 0 (l.map (litR n))).toArray⟩ : ByteArray) = R := ⟨_, rfl⟩
  rw [hR]
  have hRs : R.size ≤ 100000000000 := by rw [← hR, mk_size]; exact hT
  have hle := fun j => bodyC_le (keyC ks) (l.map (litR n)) j
  have hB0 := (Below.refl w.heap.size w).alloc (Nat.le_refl _) (.cells #[.int .i64 6, .int .i64 i, .string s, .slice a l.length c, .slice b ks.length e] 26)
  have hK0 := Blk.new w 26 #[.int .i64 6, .int .i64 i, .string s, .slice a l.length c, .slice b ks.length e]
  have HR := hide hR; have HS := hide hS; have HL := hide hL; have HT := hide hT; have HLE := hide hle; have IH := hide ih; have HK := hide hk
  clear hR hS hL hT hle ih hQ hk
  go_enter Tryd.func14, Tryd.ntmps14
  go_wp2_with fail
  generalize w.alloc (.cells #[.int .i64 6, .int .i64 i, .string s, .slice a l.length c, .slice b ks.length e] 26) = W at hB0 hK0 ⊢
  go_loopw [3, 4] (fun ov iv wr => ∃ (j : Nat) (X : ByteArray), ov = .string X ∧ iv = .int .i64 (j : Int) ∧ j ≤ l.length ∧ X.size ≤ 100000000000 ∧ Below w.heap.size w wr ∧ Hid (Blk wr w.heap.size 26 #[.int .i64 6, .int .i64 i, .string s, .slice a l.length c, .slice b ks.length e]) ∧ Hid (X = ⟨(bodyC (keyC ks) 0 ((l.map (litR n)).take j)).toArray⟩)) (fun _ iv _ => l.length - (intOf iv).toNat)
  case atStart => exact ⟨0, ⟨#[]⟩, rfl, rfl, Nat.zero_le _, by decide, hB0, hide hK0, rfl⟩
  case round =>
    obtain ⟨j, X, rfl, rfl, hjl, hXs, hB, hK, hX⟩ := hrel
    clear hB0 hK0
    have k0 := hK.out.cell 0; have k3 := hK.out.cell 3; have k4 := hK.out.cell 4
    simp at k0 k3 k4
    have zk := hK.out.lt
    by_cases hlt : j < l.length
    · obtain ⟨y, hy⟩ : ∃ y, l[j]? = some y := ⟨_, List.getElem?_eq_getElem hlt⟩
      obtain ⟨g1, o1, he1, hg1, _, k2, i2, s2, a1, n1, d1, a2, n2, d2, h5, hV⟩ := HL.out j y hy
      subst he1
      have hst := stays_any hB
      obtain ⟨f0, f1, f2, f3, f4⟩ := h5.on (hB.block g1 hg1)
      have hV := IsV.on hst n _ _ hV
      have cI := hide (fun W (h : Below wr.heap.size wr W) => IH.out _ y W (List.mem_of_getElem? hy) (IsV.on (stays_any h) n _ _ hV))
      have hp : (l.map (litR n))[j]? = some (litR n y) := by rw [List.getElem?_map, hy]; rfl
      have hnx := bodyC_next (keyC ks) (l.map (litR n)) j (litR n y) hp
      have hle1 := HLE.out (j + 1)
      have hxl : X.size = (bodyC (keyC ks) 0 ((l.map (litR n)).take j)).length := by rw [hX.out, mk_size]
      have hlen := congrArg List.length hnx
      simp only [List.length_append] at hlen
      have hT1 := HT.out
      have hg1r : g1 < wr.heap.size := Nat.lt_of_lt_of_le hg1 hB.size
      have hji : (j : Int) < (l.length : Int) := by omega
      by_cases hjk : j < ks.length
      · obtain ⟨key, hkey⟩ : ∃ key, ks[j]? = some key := ⟨_, List.getElem?_eq_getElem hjk⟩
        obtain ⟨g3, o3, he3, hg3, _, fk⟩ := HS.out j key hkey
        subst he3
        have fk := (hB.cell (p := ⟨g3, o3 + j, none⟩) hg3).trans fk
        have hkc : keyC ks j = quoteL key ++ [58] := by unfold keyC; rw [hkey]
        have cQ := fun w => refQuote_any key w (HK.out key (List.mem_of_getElem? hkey))
        have hjki : (j : Int) < (ks.length : Int) := by omega
        clear hkey
        rcases Nat.eq_zero_or_pos j with h0 | h0
        · subst h0
          simp only [Nat.zero_mul, Nat.add_zero] at f0 f1 f2 f3 f4 fk
          have HX2 := hide (show X ++ ⟨(quoteL key).toArray⟩ ++ ⟨#[58]⟩ ++ ⟨(litR n y).toArray⟩ = ⟨(bodyC (keyC ks) 0 ((l.map (litR n)).take (0 + 1))).toArray⟩ by
            rw [hnx, if_pos rfl, hkc, hX.out]; apply ByteArray.ext; simp)
          have hPs : (⟨(litR n y).toArray⟩ : ByteArray).size = (litR n y).length := mk_size _
          have hQs : (⟨(quoteL key).toArray⟩ : ByteArray).size = (quoteL key).length := mk_size _
          have hXP : X.size + (⟨(quoteL key).toArray⟩ : ByteArray).size + 1 + (⟨(litR n y).toArray⟩ : ByteArray).size ≤ 100000000000 := by rw [hPs, hQs]; rw [if_pos rfl, hkc] at hlen; simp only [List.length_nil, List.length_cons, List.length_append] at hlen; omega
          generalize (⟨(litR n y).toArray⟩ : ByteArray) = P at cI HX2 hXP
          generalize (⟨(quoteL key).toArray⟩ : ByteArray) = Q at cQ HX2 hXP
          have cQ := hide cQ
          have hzi : (X.size : Int) + (Q.size : Int) + 1 + (P.size : Int) ≤ 100000000000 := by omega
          have hz0 : decide ((0 : Int) < ((0 : Nat) : Int)) = false := rfl
          have hx0 : ((X ++ Q : ByteArray)).size = X.size + Q.size := by first | (simp only [ByteArray.size_append]; rfl) | simp only [ByteArray.size_append]
          have hx1 : ((X ++ Q ++ ⟨#[58]⟩ : ByteArray)).size = X.size + Q.size + 1 := by first | (simp only [ByteArray.size_append]; rfl) | simp only [ByteArray.size_append]
          have hx2 : ((X ++ Q ++ ⟨#[58]⟩ ++ P : ByteArray)).size = X.size + Q.size + 1 + P.size := by first | (simp only [ByteArray.size_append]; rfl) | simp only [ByteArray.size_append]
          clear hnx hlen hle1 hxl hT1 hX hPs hp hy hV h5 hkc hQs
          go_wp2_with (go_at_call 40; refine (cQ.out _).mono ?_; rintro e w1 ⟨rfl, hb1⟩; have hK := hide (hK.out.below hb1 zk); have zk := hK.out.lt; have k0 := hK.out.cell 0; have k3 := hK.out.cell 3; have k4 := hK.out.cell 4; simp at k0 k3 k4; have hg1w := Nat.lt_of_lt_of_le hg1r hb1.size; have f0 := (hb1.cell (p := ⟨g1, o1, none⟩) hg1r).trans f0; have f1 := (hb1.cell (p := ⟨g1, o1 + 1, none⟩) hg1r).trans f1; have f2 := (hb1.cell (p := ⟨g1, o1 + 2, none⟩) hg1r).trans f2; have f3 := (hb1.cell (p := ⟨g1, o1 + 3, none⟩) hg1r).trans f3; have f4 := (hb1.cell (p := ⟨g1, o1 + 4, none⟩) hg1r).trans f4)
          go_wp2_with (go_at_call 14; refine (cI.out _ hb1).mono ?_; rintro e w2 ⟨rfl, hb2⟩)
          have hK2 := hide (hK.out.below hb2 zk)
          go_roundw
          case rel => exact ⟨0 + 1, X ++ Q ++ ⟨#[58]⟩ ++ P, rfl, by go_num, by omega, by omega, hB.trans ((below_step hb1 hb2).mono hB.size), hK2, HX2⟩
          case measure => simp [intOf]; omega
        · skip
          have HX2 := hide (show X ++ ⟨#[44]⟩ ++ ⟨(quoteL key).toArray⟩ ++ ⟨#[58]⟩ ++ ⟨(litR n y).toArray⟩ = ⟨(bodyC (keyC ks) 0 ((l.map (litR n)).take (j + 1))).toArray⟩ by
            rw [hnx, if_neg (by omega), hkc, hX.out]; apply ByteArray.ext; simp)
          have hPs : (⟨(litR n y).toArray⟩ : ByteArray).size = (litR n y).length := mk_size _
          have hQs : (⟨(quoteL key).toArray⟩ : ByteArray).size = (quoteL key).length := mk_size _
          have hXP : X.size + 1 + (⟨(quoteL key).toArray⟩ : ByteArray).size + 1 + (⟨(litR n y).toArray⟩ : ByteArray).size ≤ 100000000000 := by rw [hPs, hQs]; rw [if_neg (by omega), hkc] at hlen; simp only [List.length_nil, List.length_cons, List.length_append] at hlen; omega
          generalize (⟨(litR n y).toArray⟩ : ByteArray) = P at cI HX2 hXP
          generalize (⟨(quoteL key).toArray⟩ : ByteArray) = Q at cQ HX2 hXP
          have cQ := hide cQ
          have hzi : (X.size : Int) + 1 + (Q.size : Int) + 1 + (P.size : Int) ≤ 100000000000 := by omega
          have hz0 : decide ((0 : Int) < (j : Int)) = true := by simp; omega
          have hx0 : ((X ++ ⟨#[44]⟩ : ByteArray)).size = X.size + 1 := by first | (simp only [ByteArray.size_append]; rfl) | simp only [ByteArray.size_append]
          have hx1 : ((X ++ ⟨#[44]⟩ ++ Q : ByteArray)).size = X.size + 1 + Q.size := by first | (simp only [ByteArray.size_append]; rfl) | simp only [ByteArray.size_append]
          have hx2 : ((X ++ ⟨#[44]⟩ ++ Q ++ ⟨#[58]⟩ : ByteArray)).size = X.size + 1 + Q.size + 1 := by first | (simp only [ByteArray.size_append]; rfl) | simp only [ByteArray.size_append]
          have hx3 : ((X ++ ⟨#[44]⟩ ++ Q ++ ⟨#[58]⟩ ++ P : ByteArray)).size = X.size + 1 + Q.size + 1 + P.size := by first | (simp only [ByteArray.size_append]; rfl) | simp only [ByteArray.size_append]
          clear hnx hlen hle1 hxl hT1 hX hPs hp hy hV h5 hkc hQs
          go_wp2_with (go_at_call 40; refine (cQ.out _).mono ?_; rintro e w1 ⟨rfl, hb1⟩; have hK := hide (hK.out.below hb1 zk); have zk := hK.out.lt; have k0 := hK.out.cell 0; have k3 := hK.out.cell 3; have k4 := hK.out.cell 4; simp at k0 k3 k4; have hg1w := Nat.lt_of_lt_of_le hg1r hb1.size; have f0 := (hb1.cell (p := ⟨g1, o1 + j * 5, none⟩) hg1r).trans f0; have f1 := (hb1.cell (p := ⟨g1, o1 + j * 5 + 1, none⟩) hg1r).trans f1; have f2 := (hb1.cell (p := ⟨g1, o1 + j * 5 + 2, none⟩) hg1r).trans f2; have f3 := (hb1.cell (p := ⟨g1, o1 + j * 5 + 3, none⟩) hg1r).trans f3; have f4 := (hb1.cell (p := ⟨g1, o1 + j * 5 + 4, none⟩) hg1r).trans f4)
          go_wp2_with (go_at_call 14; refine (cI.out _ hb1).mono ?_; rintro e w2 ⟨rfl, hb2⟩)
          have hK2 := hide (hK.out.below hb2 zk)
          go_roundw
          case rel => exact ⟨j + 1, X ++ ⟨#[44]⟩ ++ Q ++ ⟨#[58]⟩ ++ P, rfl, by go_num, by omega, by omega, hB.trans ((below_step hb1 hb2).mono hB.size), hK2, HX2⟩
          case measure => simp [intOf]; omega
      · have hkc : keyC ks j = [] := by unfold keyC; rw [List.getElem?_eq_none (by omega)]
        have hjki : decide ((j : Int) < (ks.length : Int)) = false := decide_eq_false (by omega)
        rcases Nat.eq_zero_or_pos j with h0 | h0
        · subst h0
          simp only [Nat.zero_mul, Nat.add_zero] at f0 f1 f2 f3 f4
          have HX2 := hide (show X ++ ⟨(litR n y).toArray⟩ = ⟨(bodyC (keyC ks) 0 ((l.map (litR n)).take (0 + 1))).toArray⟩ by
            rw [hnx, if_pos rfl, hkc, hX.out]; apply ByteArray.ext; simp)
          have hPs : (⟨(litR n y).toArray⟩ : ByteArray).size = (litR n y).length := mk_size _
          have hXP : X.size + (⟨(litR n y).toArray⟩ : ByteArray).size ≤ 100000000000 := by rw [hPs]; rw [if_pos rfl, hkc] at hlen; simp only [List.length_nil, List.length_cons, List.length_append] at hlen; omega
          generalize (⟨(litR n y).toArray⟩ : ByteArray) = P at cI HX2 hXP
          have hzi : (X.size : Int) + (P.size : Int) ≤ 100000000000 := by omega
          have hz0 : decide ((0 : Int) < ((0 : Nat) : Int)) = false := rfl
          have hx0 : ((X ++ P : ByteArray)).size = X.size + P.size := by first | (simp only [ByteArray.size_append]; rfl) | simp only [ByteArray.size_append]
          clear hnx hlen hle1 hxl hT1 hX hPs hp hy hV h5 hkc
          go_wp2_with (go_at_call 14; refine (cI.out _ (Below.refl _ _)).mono ?_; rintro e w2 ⟨rfl, hb2⟩)
          have hK2 := hide (hK.out.below hb2 zk)
          go_roundw
          case rel => exact ⟨0 + 1, X ++ P, rfl, by go_num, by omega, by omega, hB.trans (hb2.mono hB.size), hK2, HX2⟩
          case measure => simp [intOf]; omega
        · skip
          have HX2 := hide (show X ++ ⟨#[44]⟩ ++ ⟨(litR n y).toArray⟩ = ⟨(bodyC (keyC ks) 0 ((l.map (litR n)).take (j + 1))).toArray⟩ by
            rw [hnx, if_neg (by omega), hkc, hX.out]; apply ByteArray.ext; simp)
          have hPs : (⟨(litR n y).toArray⟩ : ByteArray).size = (litR n y).length := mk_size _
          have hXP : X.size + 1 + (⟨(litR n y).toArray⟩ : ByteArray).size ≤ 100000000000 := by rw [hPs]; rw [if_neg (by omega), hkc] at hlen; simp only [List.length_nil, List.length_cons, List.length_append] at hlen; omega
          generalize (⟨(litR n y).toArray⟩ : ByteArray) = P at cI HX2 hXP
          have hzi : (X.size : Int) + 1 + (P.size : Int) ≤ 100000000000 := by omega
          have hz0 : decide ((0 : Int) < (j : Int)) = true := by simp; omega
          have hx0 : ((X ++ ⟨#[44]⟩ : ByteArray)).size = X.size + 1 := by first | (simp only [ByteArray.size_append]; rfl) | simp only [ByteArray.size_append]
          have hx1 : ((X ++ ⟨#[44]⟩ ++ P : ByteArray)).size = X.size + 1 + P.size := by first | (simp only [ByteArray.size_append]; rfl) | simp only [ByteArray.size_append]
          clear hnx hlen hle1 hxl hT1 hX hPs hp hy hV h5 hkc
          go_wp2_with (go_at_call 14; refine (cI.out _ (Below.refl _ _)).mono ?_; rintro e w2 ⟨rfl, hb2⟩)
          have hK2 := hide (hK.out.below hb2 zk)
          go_roundw
          case rel => exact ⟨j + 1, X ++ ⟨#[44]⟩ ++ P, rfl, by go_num, by omega, by omega, hB.trans (hb2.mono hB.size), hK2, HX2⟩
          case measure => simp [intOf]; omega
    · obtain rfl : j = l.length := by omega
      have hjf : decide ((l.length : Int) < (l.length : Int)) = false := by simp
      have hXR : X = R := by rw [hX.out, ← HR.out, List.take_of_length_le (by simp)]
      subst hXR
      have hXi : (X.size : Int) ≤ 100000000000 := by omega
      clear hX
      go_wp2_with fail
      go_ret
      exact ⟨rfl, hB⟩
theorem refLit_any : ∀ (n : Nat) (v : Value) (d : VT n) (w : World), IsV anyB w n v d → SmallV n d → NumV n d → massV n d ≤ 1000000000 →
    Calls Tryd.prog 14 #[v] w fun e w' => e = .returned (.string ⟨(litR n d).toArray⟩) ∧ Below w.heap.size w w' := by
  intro n
  induction n with
  | zero => intro v d w h; exact h.elim
  | succ n ih =>
    intro v d w h hsm hnm hms
    have hpl := litR_len (n + 1) d hnm
    obtain ⟨k, i, s, l, ks⟩ := d
    obtain ⟨a, c, b, e, rfl, hS, hL⟩ := h.parts
    obtain ⟨_, hz2, hz3, hz4, hz5⟩ := hsm
    obtain ⟨hi, hn5⟩ := hnm
    have hz2 : l.length * 80 ≤ 140737488351232 := hz2
    have hz3 : ks.length * 16 ≤ 140737488351232 := hz3
    have hz5 : ∀ x ∈ l, SmallV n x := hz5
    have hn5 : ∀ x ∈ l, NumV n x := hn5
    rw [massV_succ] at hms hpl
    have hms2 : 1 + s.length + sumBy (fun k => k.length + 1) ks + sumBy (massV n) l ≤ 1000000000 := hms
    have hk4 : ∀ k ∈ ks, k.length ≤ 1000000000 := fun k hk => by
      have := sumBy_mem (fun k : List UInt8 => k.length + 1) ks k hk
      omega
    have hP : ∀ (v : Value) (x : VT n) (W : World), x ∈ l → IsV anyB W n v x → Calls Tryd.prog 14 #[v] W fun e w' => e = .returned (.string ⟨(litR n x).toArray⟩) ∧ Below W.heap.size W w' :=
      fun v x W hx hv => ih v x W hv (hz5 x hx) (hn5 x hx) (by have := sumBy_mem (massV n) l x hx; omega)
    rw [lit_mk] at hpl ⊢
    have hq : _ ≤ 30 * (1 + s.length + sumBy (fun k => k.length + 1) ks + sumBy (massV n) l) := hpl
    clear hpl
    by_cases h0 : k = 0
    · rw [if_pos h0]; exact lit_low _ _ _ _ _ _ _ _ _ _ _ (.inl ⟨h0, rfl⟩)
    rw [if_neg h0] at hq ⊢
    by_cases h1 : k = 1
    · rw [if_pos h1]; exact lit_low _ _ _ _ _ _ _ _ _ _ _ (.inr (.inl ⟨h1, rfl⟩))
    rw [if_neg h1] at hq ⊢
    by_cases h2 : k = 2
    · rw [if_pos h2]; exact lit_low _ _ _ _ _ _ _ _ _ _ _ (.inr (.inr ⟨h2, rfl⟩))
    rw [if_neg h2] at hq ⊢
    by_cases h3 : k = 3
    · rw [if_pos h3]; subst h3; exact lit_three i _ _ _ _ _ _ _ _ hi.1 hi.2
    rw [if_neg h3] at hq ⊢
    by_cases h5 : k = 5
    · rw [if_pos h5, partsL_none] at hq ⊢
      subst h5
      exact lit_list i _ l ks a b c e w hS hL hz2 hz3 hk4 (by have h9 := hq; rw [List.length_cons, List.length_append] at h9; omega) hP
    rw [if_neg h5] at hq ⊢
    by_cases h6 : k = 6
    · rw [if_pos h6, partsL_some] at hq ⊢
      subst h6
      exact lit_rec i _ l ks a b c e w hS hL hz2 hz3 hk4 (by have h9 := hq; rw [List.length_cons, List.length_append] at h9; omega) hP
    rw [if_neg h6]
    exact lit_else k i s _ _ _ _ _ _ _ (by omega) (by omega)
end Go.Proofs.YtdnmgpidfjkiaaaDoor
