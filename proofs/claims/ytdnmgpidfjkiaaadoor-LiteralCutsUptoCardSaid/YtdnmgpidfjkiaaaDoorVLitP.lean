/-
  literal.Literal of any value.
-/
import Derived.Test.YtdnmgpidfjkiaaaDoorM2
import Derived.Test.YtdnmgpidfjkiaaaDoorQuote
import Derived.Test.YtdnmgpidfjkiaaaDoorPrint
import Derived.Test.YtdnmgpidfjkiaaaDoorVRow
import Derived.Test.YtdnmgpidfjkiaaaDoorM6
import Derived.Test.YtdnmgpidfjkiaaaDoorShelf
import Derived.Shelf.Abstract
namespace Go.Proofs.YtdnmgpidfjkiaaaDoor
open Go.RowKit
set_option linter.unusedVariables false
set_option linter.unusedSimpArgs false

theorem own_sliceM {w : World} {base n size : Nat} {e : TypeId} {v : Value} {xs : List Value} (h : w.ownsRow base e size v n xs) : ∃ A c, v = .slice A n c := by
  rcases h.2 with ⟨rfl, rfl⟩ | ⟨g, cap, cur, rfl, _⟩
  · exact ⟨_, _, rfl⟩
  · exact ⟨_, _, rfl⟩
abbrev TabsU (w : World) : Prop := Lib.Utf8Tabs 3 4 w
abbrev strW (x : List UInt8) : Value := .string ⟨x.toArray⟩
/-- A record's key by its place; nothing in a list. -/
def keyK (k : Int) (ks : List (List UInt8)) (j : Nat) : List UInt8 := if k = 6 then keyC ks j else []
theorem keyK_list (ks : List (List UInt8)) : keyK 5 ks = fun _ => [] := by funext j; rfl
theorem keyK_rec (ks : List (List UInt8)) : keyK 6 ks = keyC ks := by funext j; rfl
/-- The parts that are joined. -/
def partK (k : Int) (ks : List (List UInt8)) : Nat → List (List UInt8) → List (List UInt8)
  | _, [] => []
  | j, p :: r => (keyK k ks j ++ p) :: partK k ks (j + 1) r
theorem partK_len (k : Int) (ks : List (List UInt8)) : ∀ (ps : List (List UInt8)) (j : Nat), (partK k ks j ps).length = ps.length := by
  intro ps
  induction ps with
  | nil => intro j; rfl
  | cons p r ih => intro j; simp only [partK, List.length_cons, ih]
theorem partK_get (k : Int) (ks : List (List UInt8)) : ∀ (ps : List (List UInt8)) (j i : Nat) (p : List UInt8), ps[i]? = some p → (partK k ks j ps)[i]? = some (keyK k ks (j + i) ++ p) := by
  intro ps
  induction ps with
  | nil => intro j i p h; simp at h
  | cons q r ih =>
    intro j i p h
    cases i with
    | zero => simp at h; subst h; rfl
    | succ i =>
      simp only [partK, List.getElem?_cons_succ]
      have := ih (j + 1) i p (by simpa using h)
      rw [this, show j + 1 + i = j + (i + 1) by omega]
theorem tail_body (k : Int) (ks : List (List UInt8)) : ∀ (ps : List (List UInt8)) (j : Nat), 0 < j → Lib.joinTail [44] (partK k ks j ps) = bodyC (keyK k ks) j ps := by
  intro ps
  induction ps with
  | nil => intro j _; rfl
  | cons p r ih =>
    intro j hj
    have := ih (j + 1) (by omega)
    unfold Lib.joinTail at this ⊢
    simp only [partK, List.map_cons, List.flatten_cons, bodyC, this]
    rw [if_neg (by omega)]
    simp
theorem join_body (k : Int) (ks ps : List (List UInt8)) : Lib.join (partK k ks 0 ps) [44] = bodyC (keyK k ks) 0 ps := by
  cases ps with
  | nil => rfl
  | cons p r =>
    simp only [partK, Lib.join_cons, bodyC]
    rw [tail_body k ks r 1 (by omega)]
    simp
set_option maxHeartbeats 1000000 in
set_option maxRecDepth 100000 in
theorem litKey_any (k i : Int) (s : ByteArray) (a b : Option Addr) (m c e : Nat) (ks : List (List UInt8)) (j : Nat) (w : World) (hT : TabsU w) (hS : StrsAt anyB w b ks) (hk : ∀ x ∈ ks, x.length ≤ 1000000000) (hj : j ≤ 10000000000000) :
    Calls Tryd.prog 43 #[valV k i s a m c b ks.length e, .int .i64 (j : Int)] w fun e w' => e = .returned (.string ⟨(keyK k ks j).toArray⟩) ∧ Below w.heap.size w w' := by
  have hB := (Below.refl w.heap.size w).alloc (Nat.le_refl _) (.cells #[.int .i64 k, .int .i64 i, .string s, .slice a m c, .slice b ks.length e] 26)
  by_cases h6 : k = 6
  · subst h6
    by_cases hlt : j < ks.length
    · obtain ⟨x, hx⟩ : ∃ x, ks[j]? = some x := ⟨_, List.getElem?_eq_getElem hlt⟩
      obtain ⟨g, o, rfl, hg, _, fx⟩ := hS j x hx
      have hkx := hk x (List.mem_of_getElem? hx)
      have cQ := hide (fun W (h : Below w.heap.size w W) => quote_any x W hkx (Utf8Tabs_below hT h))
      have hv : (⟨(keyK 6 ks j).toArray⟩ : ByteArray) = (⟨(34 :: (escR x ++ [34])).toArray⟩ : ByteArray) ++ (⟨#[58]⟩ : ByteArray) := by
        rw [keyK_rec]; unfold keyC; rw [hx]; apply ByteArray.ext; simp [quoteL]
      rw [hv]
      have hl := escR_len x
      have hm : (⟨(34 :: (escR x ++ [34])).toArray⟩ : ByteArray).size ≤ 13000000000 := by rw [mk_size]; simp; omega
      generalize (⟨(34 :: (escR x ++ [34])).toArray⟩ : ByteArray) = X at cQ hm ⊢
      have hmi : (X.size : Int) ≤ 13000000000 := by omega
      have hjf : decide ((ks.length : Int) ≤ (j : Int)) = false := decide_eq_false (by omega)
      have hji : (j : Int) < (ks.length : Int) := by omega
      have fx := (hB.cell (p := ⟨g, o + j, none⟩) hg).trans fx
      clear hv hl hx hT hS hk hkx
      go_enter Tryd.func43, Tryd.ntmps43
      go_wp2_with fail
      generalize w.alloc (.cells #[.int .i64 6, .int .i64 i, .string s, .slice a m c, .slice (some ⟨g, o, none⟩) ks.length e] 26) = W at hB fx ⊢
      go_wp2_with (go_at_call 34; refine (cQ.out _ hB).mono ?_; rintro e w1 ⟨rfl, hb⟩)
      go_ret
      exact ⟨rfl, hB.trans (hb.mono hB.size)⟩
    · have hv : keyK 6 ks j = [] := by rw [keyK_rec]; unfold keyC; rw [List.getElem?_eq_none (by omega)]
      rw [hv]
      have hjf : decide ((ks.length : Int) ≤ (j : Int)) = true := decide_eq_true (by omega)
      go_enter Tryd.func43, Tryd.ntmps43
      go_wp2_with fail
      go_ret
      exact ⟨rfl, hB⟩
  · have hv : keyK k ks j = [] := by unfold keyK; rw [if_neg h6]
    rw [hv]
    have hkf : (k == 6) = false := by simpa using h6
    go_enter Tryd.func43, Tryd.ntmps43
    go_wp2_with fail
    go_ret
    exact ⟨rfl, hB⟩
set_option maxHeartbeats 1000000 in
set_option maxRecDepth 100000 in
theorem litP_low (k i : Int) (s : ByteArray) (a b : Option Addr) (m c p e : Nat) (t : List UInt8) (w : World) (h : (k = 0 ∧ t = [110, 117, 108, 108]) ∨ (k = 1 ∧ t = [102, 97, 108, 115, 101]) ∨ (k = 2 ∧ t = [116, 114, 117, 101])) :
    Calls Tryd.prog 19 #[valV k i s a m c b p e] w fun e w' => e = .returned (.string ⟨t.toArray⟩) ∧ Below w.heap.size w w' := by
  have hB := (Below.refl w.heap.size w).alloc (Nat.le_refl _) (.cells #[.int .i64 k, .int .i64 i, .string s, .slice a m c, .slice b p e] 26)
  rcases h with ⟨rfl, rfl⟩ | ⟨rfl, rfl⟩ | ⟨rfl, rfl⟩
  all_goals
    go_enter Tryd.func19, Tryd.ntmps19
    go_wp2_with fail
    go_ret
    exact ⟨rfl, hB.alloc (by simp) _⟩
set_option maxHeartbeats 1000000 in
set_option maxRecDepth 100000 in
theorem litP_three (i : Int) (s : ByteArray) (a b : Option Addr) (m c p e : Nat) (w : World) (lo : -9223372036854775808 ≤ i) (hi : i ≤ 9223372036854775807) :
    Calls Tryd.prog 19 #[valV 3 i s a m c b p e] w fun e w' => e = .returned (.string ⟨(if i < 0 then 32 :: pInt i else pInt i).toArray⟩) ∧ Below w.heap.size w w' := by
  have cI := fun w => print_any i w lo hi
  have hl := pInt_le22 i lo hi
  have hB := (Below.refl w.heap.size w).alloc (Nat.le_refl _) (.cells #[.int .i64 3, .int .i64 i, .string s, .slice a m c, .slice b p e] 26)
  by_cases h0 : i < 0
  · rw [if_pos h0]
    have hq : (⟨(32 :: pInt i).toArray⟩ : ByteArray) = (⟨#[32]⟩ : ByteArray) ++ ⟨(pInt i).toArray⟩ := by apply ByteArray.ext; simp
    rw [hq]
    have hm : (⟨(pInt i).toArray⟩ : ByteArray).size ≤ 21 := by rw [mk_size]; omega
    generalize (⟨(pInt i).toArray⟩ : ByteArray) = X at cI hm ⊢
    have cI := hide cI
    have hmi : (X.size : Int) ≤ 21 := by omega
    have hd : decide (i < 0) = true := decide_eq_true h0
    clear hq hl
    go_enter Tryd.func19, Tryd.ntmps19
    go_wp2_with (go_at_call 42; refine (cI.out _).mono ?_; rintro e w1 ⟨rfl, hb⟩)
    go_ret
    exact ⟨rfl, hB.trans (hb.mono hB.size)⟩
  · rw [if_neg h0]
    have cI := hide cI
    have hd : decide (i < 0) = false := decide_eq_false h0
    go_enter Tryd.func19, Tryd.ntmps19
    go_wp2_with (go_at_call 42; refine (cI.out _).mono ?_; rintro e w1 ⟨rfl, hb⟩)
    go_ret
    exact ⟨rfl, hB.trans (hb.mono hB.size)⟩
set_option maxHeartbeats 1000000 in
set_option maxRecDepth 100000 in
theorem litP_else (k i : Int) (s : List UInt8) (a b : Option Addr) (m c p e : Nat) (w : World) (h : k < 0 ∨ k = 4 ∨ 7 ≤ k) (hz : s.length ≤ 1000000000) (hT : TabsU w) :
    Calls Tryd.prog 19 #[valV k i ⟨s.toArray⟩ a m c b p e] w fun e w' => e = .returned (.string ⟨(quoteL s).toArray⟩) ∧ Below w.heap.size w w' := by
  have h3 : (k == 3) = false := by rw [beq_eq_false_iff_ne]; omega
  have h5 : (k == 5) = false := by rw [beq_eq_false_iff_ne]; omega
  have h6 : (k == 6) = false := by rw [beq_eq_false_iff_ne]; omega
  have n5 : (k != 5) = true := by rw [bne, h5]; rfl
  have n6 : (k != 6) = true := by rw [bne, h6]; rfl
  have m5 : (k = 5) = False := eq_false (by omega)
  have m6 : (k = 6) = False := eq_false (by omega)
  have m3 : (k = 3) = False := eq_false (by omega)
  have cQ := hide (fun W (h : Below w.heap.size w W) => (show Calls Tryd.prog 34 #[.string ⟨s.toArray⟩] W fun e w' => e = .returned (.string ⟨(quoteL s).toArray⟩) ∧ Below W.heap.size W w' from quote_any s W hz (Utf8Tabs_below hT h)))
  have hB := (Below.refl w.heap.size w).alloc (Nat.le_refl _) (.cells #[.int .i64 k, .int .i64 i, .string ⟨s.toArray⟩, .slice a m c, .slice b p e] 26)
  clear hT
  by_cases hk0 : 0 ≤ k
  · have e0 : decide (0 ≤ k) = true := decide_eq_true hk0
    have e3 : decide (k < 3) = false := decide_eq_false (by omega)
    clear h hk0
    go_enter Tryd.func19, Tryd.ntmps19
    go_wp2_with (go_at_call 34; refine (cQ.out _ hB).mono ?_; rintro e w1 ⟨rfl, hb⟩)
    go_ret
    exact ⟨rfl, hB.trans (hb.mono hB.size)⟩
  · have e0 : decide (0 ≤ k) = false := decide_eq_false hk0
    clear h hk0
    go_enter Tryd.func19, Tryd.ntmps19
    go_wp2_with (go_at_call 34; refine (cQ.out _ hB).mono ?_; rintro e w1 ⟨rfl, hb⟩)
    go_ret
    exact ⟨rfl, hB.trans (hb.mono hB.size)⟩
set_option maxHeartbeats 4000000 in
set_option maxRecDepth 100000 in
theorem litP_many5 {n : Nat} (i : Int) (s : ByteArray) (l : List (VT n)) (ks : List (List UInt8)) (a b : Option Addr) (c e : Nat) (w : World) (hTb : TabsU w) (hS : StrsAt anyB w b ks) (hL : ValsAt anyB w (IsV anyB w n) a l) (hz2 : l.length * 80 ≤ 140737488351232) (hk : ∀ k ∈ ks, k.length ≤ 1000000000)
    (hT : (bodyC (keyK 5 ks) 0 (l.map (litR n))).length ≤ 100000000000)
    (ih : ∀ (v : Value) (x : VT n) (W : World), x ∈ l → TabsU W → IsV anyB W n v x → Calls Tryd.prog 19 #[v] W fun e w' => e = .returned (.string ⟨(litR n x).toArray⟩) ∧ Below W.heap.size W w') :
    Calls Tryd.prog 19 #[valV 5 i s a l.length c b ks.length e] w fun e w' => e = .returned (.string ⟨(91 :: (bodyC (keyK 5 ks) 0 (l.map (litR n)) ++ [93])).toArray⟩) ∧ Below w.heap.size w w' := by
  obtain ⟨i0, hi, hz0, hz1, hz2s⟩ := info_parts info_strV
  have hQ : (⟨(91 :: (bodyC (keyK 5 ks) 0 (l.map (litR n)) ++ [93])).toArray⟩ : ByteArray) = (⟨#[91]⟩ : ByteArray) ++ ⟨(bodyC (keyK 5 ks) 0 (l.map (litR n))).toArray⟩ ++ (⟨#[93]⟩ : ByteArray) := by apply ByteArray.ext; simp
  rw [hQ]
  obtain ⟨R, hR⟩ : ∃ R : ByteArray, (⟨(bodyC (keyK 5 ks) 0 (l.map (litR n))).toArray⟩ : ByteArray) = R := ⟨_, rfl⟩
  rw [hR]
  have hRs : R.size ≤ 100000000000 := by rw [← hR, mk_size]; exact hT
  have hRi : (R.size : Int) ≤ 100000000000 := by omega
  have hB0 := (Below.refl w.heap.size w).alloc (Nat.le_refl _) (.cells #[.int .i64 5, .int .i64 i, .string s, .slice a l.length c, .slice b ks.length e] 26)
  have hK0 := Blk.new w 26 #[.int .i64 5, .int .i64 i, .string s, .slice a l.length c, .slice b ks.length e]
  have HR := hide hR; have HS := hide hS; have HL := hide hL; have HT := hide hT; have IH := hide ih; have HK := hide hk; have HTB := hide hTb
  obtain ⟨L, hL2⟩ : ∃ L : List Value, (partK 5 ks 0 (l.map (litR n))).map strW = L := ⟨_, rfl⟩
  have LEN := hide (show L.length = l.length by rw [← hL2, List.length_map, partK_len, List.length_map])
  have HL2 := hide hL2
  clear hR hS hL hT ih hQ hk hTb hL2
  go_enter Tryd.func19, Tryd.ntmps19
  go_wp2_with (at_make; refine wpList_make_own _ rfl _ _ 24 rfl (w.heap.size + 1) 9 i0 (.string ⟨#[]⟩) 1 Tryd.underlying24 hi hz0 hz1 .i64 .i64 _ l.length rfl rfl rfl (by rw [hz2s]; omega) (by unfold maxLen; omega) (by simp) ?_; intro w0 hown0 hgrow0; have hB1 := hide (hB0.grown hgrow0 (by simp) (fun k e => by cases e)); have hK1 := hide (hK0.grown hgrow0 (fun e => by cases e)); have hown1 := hide hown0; have k0 := hK1.out.cell 0; have k3 := hK1.out.cell 3; have k4 := hK1.out.cell 4; simp at k0 k3 k4; clear hown0 hgrow0)
  clear k0 k3 k4
  go_loopw [3, 60] (fun ov iv wr => ∃ (j : Nat) (A0 : Option Addr) (cp : Nat), ov = .slice A0 j cp ∧ iv = .int .i64 (j : Int) ∧ j ≤ l.length ∧ Below w.heap.size w wr ∧ Hid (Blk wr w.heap.size 26 #[.int .i64 5, .int .i64 i, .string s, .slice a l.length c, .slice b ks.length e]) ∧ Hid (wr.ownsRow (w.heap.size + 1) 9 1 (.slice A0 j cp) j (L.take j))) (fun _ iv _ => l.length - (intOf iv).toNat)
  case atStart => exact ⟨0, _, _, rfl, rfl, Nat.zero_le _, hB1.out, hK1, hide (by simpa using hown1.out)⟩
  case round =>
    obtain ⟨j, A0, cp, rfl, rfl, hjl, hB, hK, hown⟩ := hrel
    clear hB1 hK1 hown1 hB0 hK0
    have zk := hK.out.lt
    by_cases hlt : j < l.length
    · obtain ⟨y, hy⟩ : ∃ y, l[j]? = some y := ⟨_, List.getElem?_eq_getElem hlt⟩
      obtain ⟨g1, o1, he1, hg1, _, k2, i2, s2, a1, n1, d1, a2, n2, d2, h5, hV⟩ := HL.out j y hy
      subst he1
      obtain ⟨f0, f1, f2, f3, f4⟩ := h5.on (hB.block g1 hg1)
      have hg1r : g1 < wr.heap.size := Nat.lt_of_lt_of_le hg1 hB.size
      have hji : (j : Int) < (l.length : Int) := by omega
      have hBC := hB.alloc hB.size (.cells #[.int .i64 k2, .int .i64 i2, .string s2, .slice a1 n1 d1, .slice a2 n2 d2] 26)
      have hKE := Blk.new wr 26 #[.int .i64 k2, .int .i64 i2, .string s2, .slice a1 n1 d1, .slice a2 n2 d2]
      have hKB := hK.out.alloc (.cells #[.int .i64 k2, .int .i64 i2, .string s2, .slice a1 n1 d1, .slice a2 n2 d2] 26)
      have hownC := hown.out.alloc (.cells #[.int .i64 k2, .int .i64 i2, .string s2, .slice a1 n1 d1, .slice a2 n2 d2] 26)
      have hzw : wr.heap.size < (wr.alloc (.cells #[.int .i64 k2, .int .i64 i2, .string s2, .slice a1 n1 d1, .slice a2 n2 d2] 26)).heap.size := by simp
      go_wp2_with fail
      generalize wr.alloc (.cells #[.int .i64 k2, .int .i64 i2, .string s2, .slice a1 n1 d1, .slice a2 n2 d2] 26) = W at hBC hKE hKB hownC hzw ⊢
      have hp : (l.map (litR n))[j]? = some (litR n y) := by rw [List.getElem?_map, hy]; rfl
      have hpart := partK_get 5 ks _ 0 j _ hp
      rw [Nat.zero_add] at hpart
      have hb1 := bodyC_next (keyK 5 ks) (l.map (litR n)) j (litR n y) hp
      have hb2 := bodyC_le (keyK 5 ks) (l.map (litR n)) (j + 1)
      have hT1 := HT.out
      have hlen := congrArg List.length hb1
      simp only [List.length_append] at hlen
      have hcK := fun W' (h : Below W.heap.size W W') => litKey_any 5 i s (some ⟨g1, o1, none⟩) b l.length c e ks j W' (Utf8Tabs_below HTB.out (hBC.trans (h.mono hBC.size))) (HS.out.on (stays_any (hBC.trans (h.mono hBC.size)))) HK.out (by omega)
      have hcI := fun W' (h : Below W.heap.size W W') => IH.out _ y W' (List.mem_of_getElem? hy) (Utf8Tabs_below HTB.out (hBC.trans (h.mono hBC.size))) (IsV.on (stays_any (hBC.trans (h.mono hBC.size))) n _ _ hV)
      have hPs : (⟨(litR n y).toArray⟩ : ByteArray).size = (litR n y).length := mk_size _
      have hKs : (⟨(keyK 5 ks j).toArray⟩ : ByteArray).size = (keyK 5 ks j).length := mk_size _
      have hXP : (⟨(keyK 5 ks j).toArray⟩ : ByteArray).size + (⟨(litR n y).toArray⟩ : ByteArray).size ≤ 100000000000 := by rw [hPs, hKs]; omega
      have HPT := hide (show L.take j ++ [.string ((⟨(keyK 5 ks j).toArray⟩ : ByteArray) ++ (⟨(litR n y).toArray⟩ : ByteArray))] = L.take (j + 1) by
        rw [← HL2.out, List.take_add_one, List.getElem?_map, hpart]
        have : strW (keyK 5 ks j ++ litR n y) = .string ((⟨(keyK 5 ks j).toArray⟩ : ByteArray) ++ (⟨(litR n y).toArray⟩ : ByteArray)) :=
          congrArg Value.string (by apply ByteArray.ext; simp)
        rw [← this]; rfl)
      generalize (⟨(litR n y).toArray⟩ : ByteArray) = P at hcI HPT hXP
      generalize (⟨(keyK 5 ks j).toArray⟩ : ByteArray) = Q at hcK HPT hXP
      have n1 : ¬ (9223372036854775807 < Q.size + P.size) := by omega
      have n2 : ¬ ((9223372036854775807 : Int) < (Q.size : Int) + (P.size : Int)) := by omega
      have hcI := hide hcI; have hcK := hide hcK
      have HOWN := hide hownC; have HBC := hide hBC
      have x0 := hKB.cell 0; have x1 := hKB.cell 1; have x2 := hKB.cell 2; have x3 := hKB.cell 3; have x4 := hKB.cell 4
      have y0 := hKE.cell 0; have y1 := hKE.cell 1; have y2 := hKE.cell 2; have y3 := hKE.cell 3; have y4 := hKE.cell 4
      simp at x0 x1 x2 x3 x4 y0 y1 y2 y3 y4
      have zW : w.heap.size < W.heap.size := by omega
      have HKB := hide hKB; have HKE := hide hKE
      clear hp hpart hb1 hb2 hT1 hlen hPs hKs hV h5 hy hKE hKB hownC hBC f0 f1 f2 f3 f4
      have zWr := HBC.out.size
      go_region_law (first
        | (refine step_append_lies _ rfl (.tmp 65) (.tmp 72) 24 rfl (w.heap.size + 1) 9 i0 (.string ⟨#[]⟩) 1 16 Tryd.underlying24 hi hz0 hz1 hz2s rfl (by decide) (.slice A0 j cp) j _ (by simp [Act.eval, Act.put]) (hownQ.alloc _) ⟨wQ.heap.size, 0, none⟩ 1 1 [.string (Q ++ P)] (by simp [Act.eval, Act.put]) rfl (by intro t u ht; match t, ht with | 0, ht => simp at ht; subst ht; simp [Addr.add]) (by intro u hu; simp at hu; subst hu; rfl) (by omega) (by unfold maxLen; omega) (by omega) (by simp; omega) _ rfl ?_; intro g4 cp4 w4 hown4 hgrow4 hat4 hlt4)
        | (go_simp; go_at_call 43; refine (hcK.out _ (Below.refl _ _).drew).mono ?_; rintro e wP ⟨rfl, hbP⟩; have hBP := (Below.refl W.heap.size W).drew.trans hbP; have hKEP := HKE.out.below hBP hzw; have y0 := hKEP.cell 0; have y1 := hKEP.cell 1; have y2 := hKEP.cell 2; have y3 := hKEP.cell 3; have y4 := hKEP.cell 4; simp at y0 y1 y2 y3 y4; clear hKEP)
        | (go_simp; go_at_call 19; refine (hcI.out _ hBP).mono ?_; rintro e wQ ⟨rfl, hbQ⟩; have hBQ := hBP.trans (hbQ.mono hBP.size); have hownQ := own_keepV HOWN.out hBQ; have hbwQ := HBC.out.trans (hBQ.mono zWr); have hQz := hbwQ.size; have hKQ := hide (HKB.out.below hBQ zW)))
      all_goals
        rw [HPT.out] at hown4
        have hbF := (hbwQ.alloc hQz (.cells #[.string (Q ++ P)] 9)).grown hgrow4 (by simp; omega) (fun q hq => by have := (hownQ.lt q hq).1; omega)
        have hKF := hide ((hKQ.out.alloc (.cells #[.string (Q ++ P)] 9)).grown hgrow4 (fun hq => by have := (hownQ.lt _ hq.symm).1; omega))
        have hownF := hide hown4
        clear hown4 hgrow4 hat4 hownQ hKQ y0 y1 y2 y3 y4 x0 x1 x2 x3 x4
        go_wp2_with fail
        go_roundw
        case rel => exact ⟨j + 1, some ⟨g4, 0, none⟩, cp4, rfl, by go_num, by omega, hbF, hKF, hownF⟩
        case measure => simp [intOf]; omega
    · have hj2 : j = l.length := by omega
      subst hj2
      have hge : decide ((l.length : Int) < (l.length : Int)) = false := by simp
      have hownL := hown.out
      rw [show L.take l.length = L by rw [← LEN.out]; exact List.take_length] at hownL
      have hLz : (partK 5 ks 0 (l.map (litR n))).length = l.length := by rw [partK_len, List.length_map]
      have hT1 := HT.out
      have cJ : Calls Tryd.prog 44 #[.slice A0 l.length cp, .string ⟨#[44]⟩] wr fun e w' => e = .returned (.string R) ∧ Below wr.heap.size wr w' := by
        by_cases h0 : l.length = 0
        · obtain rfl : l = [] := List.length_eq_zero_iff.1 h0
          refine (Tryd.strings_Join_none A0 cp ⟨#[44]⟩ wr).mono ?_
          rintro e w' ⟨rfl, rfl⟩
          refine ⟨?_, Below.refl _ _⟩
          rw [← HR.out]
          rfl
        · obtain ⟨g, hA0, hglt, hncp⟩ : ∃ g, A0 = some ⟨g, 0, none⟩ ∧ g < wr.heap.size ∧ l.length ≤ cp := by
            rcases hownL.2 with ⟨hv, hn⟩ | ⟨g, cap, cur, hv, hBg, hg, hnc, _⟩
            · exact absurd hn h0
            · injection hv with hv1 hv2 hv3
              subst hv3
              exact ⟨g, hv1, lt_of_heap hg, hnc⟩
          subst hA0
          have hm : (((partK 5 ks 0 (l.map (litR n))).map fun x => (⟨x.toArray⟩ : ByteArray)).map (·.data.toList)) = partK 5 ks 0 (l.map (litR n)) := by
            rw [List.map_map]
            exact (List.map_congr_left (fun x _ => rfl)).trans (List.map_id _)
          have cJ := Tryd.strings_Join g 0 cp ((partK 5 ks 0 (l.map (litR n))).map fun x => ⟨x.toArray⟩) ⟨#[44]⟩ wr (by
            intro j x hx
            have := hownL.cells (g := g) rfl j (.string x) (by
              rw [← HL2.out]
              rw [List.getElem?_map] at hx
              obtain ⟨p, hp, rfl⟩ := Option.map_eq_some_iff.1 hx
              simp [hp])
            have ha : (⟨g, 0, none⟩ : Addr).add j = ⟨g, 0 + j, none⟩ := by unfold Addr.add; split <;> simp_all
            rw [ha] at this
            simpa using this) hglt (by simp [hLz]; omega) (by simp [hLz]; omega) (by
            rw [hm, show (⟨#[44]⟩ : ByteArray).data.toList = [44] from rfl, join_body]
            omega)
          rw [hm, List.length_map, show (⟨#[44]⟩ : ByteArray).data.toList = [44] from rfl, join_body, hLz, HR.out] at cJ
          exact cJ
      have cJ := hide cJ
      clear hown hownL hLz hT1
      go_wp2_with fail
      refine (cJ.out).mono ?_
      rintro e w1 ⟨rfl, hb1⟩
      have k1 := (hK.out.below hb1 zk).cell 0
      simp at k1
      go_wp2_with fail
      go_ret
      exact ⟨rfl, hB.trans (hb1.mono hB.size)⟩
set_option maxHeartbeats 4000000 in
set_option maxRecDepth 100000 in
theorem litP_many6 {n : Nat} (i : Int) (s : ByteArray) (l : List (VT n)) (ks : List (List UInt8)) (a b : Option Addr) (c e : Nat) (w : World) (hTb : TabsU w) (hS : StrsAt anyB w b ks) (hL : ValsAt anyB w (IsV anyB w n) a l) (hz2 : l.length * 80 ≤ 140737488351232) (hk : ∀ k ∈ ks, k.length ≤ 1000000000)
    (hT : (bodyC (keyK 6 ks) 0 (l.map (litR n))).length ≤ 100000000000)
    (ih : ∀ (v : Value) (x : VT n) (W : World), x ∈ l → TabsU W → IsV anyB W n v x → Calls Tryd.prog 19 #[v] W fun e w' => e = .returned (.string ⟨(litR n x).toArray⟩) ∧ Below W.heap.size W w') :
    Calls Tryd.prog 19 #[valV 6 i s a l.length c b ks.length e] w fun e w' => e = .returned (.string ⟨(123 :: (bodyC (keyK 6 ks) 0 (l.map (litR n)) ++ [125])).toArray⟩) ∧ Below w.heap.size w w' := by
  obtain ⟨i0, hi, hz0, hz1, hz2s⟩ := info_parts info_strV
  have hQ : (⟨(123 :: (bodyC (keyK 6 ks) 0 (l.map (litR n)) ++ [125])).toArray⟩ : ByteArray) = (⟨#[123]⟩ : ByteArray) ++ ⟨(bodyC (keyK 6 ks) 0 (l.map (litR n))).toArray⟩ ++ (⟨#[125]⟩ : ByteArray) := by apply ByteArray.ext; simp
  rw [hQ]
  obtain ⟨R, hR⟩ : ∃ R : ByteArray, (⟨(bodyC (keyK 6 ks) 0 (l.map (litR n))).toArray⟩ : ByteArray) = R := ⟨_, rfl⟩
  rw [hR]
  have hRs : R.size ≤ 100000000000 := by rw [← hR, mk_size]; exact hT
  have hRi : (R.size : Int) ≤ 100000000000 := by omega
  have hB0 := (Below.refl w.heap.size w).alloc (Nat.le_refl _) (.cells #[.int .i64 6, .int .i64 i, .string s, .slice a l.length c, .slice b ks.length e] 26)
  have hK0 := Blk.new w 26 #[.int .i64 6, .int .i64 i, .string s, .slice a l.length c, .slice b ks.length e]
  have HR := hide hR; have HS := hide hS; have HL := hide hL; have HT := hide hT; have IH := hide ih; have HK := hide hk; have HTB := hide hTb
  obtain ⟨L, hL2⟩ : ∃ L : List Value, (partK 6 ks 0 (l.map (litR n))).map strW = L := ⟨_, rfl⟩
  have LEN := hide (show L.length = l.length by rw [← hL2, List.length_map, partK_len, List.length_map])
  have HL2 := hide hL2
  clear hR hS hL hT ih hQ hk hTb hL2
  go_enter Tryd.func19, Tryd.ntmps19
  go_wp2_with (at_make; refine wpList_make_own _ rfl _ _ 24 rfl (w.heap.size + 1) 9 i0 (.string ⟨#[]⟩) 1 Tryd.underlying24 hi hz0 hz1 .i64 .i64 _ l.length rfl rfl rfl (by rw [hz2s]; omega) (by unfold maxLen; omega) (by simp) ?_; intro w0 hown0 hgrow0; have hB1 := hide (hB0.grown hgrow0 (by simp) (fun k e => by cases e)); have hK1 := hide (hK0.grown hgrow0 (fun e => by cases e)); have hown1 := hide hown0; have k0 := hK1.out.cell 0; have k3 := hK1.out.cell 3; have k4 := hK1.out.cell 4; simp at k0 k3 k4; clear hown0 hgrow0)
  clear k0 k3 k4
  go_loopw [3, 60] (fun ov iv wr => ∃ (j : Nat) (A0 : Option Addr) (cp : Nat), ov = .slice A0 j cp ∧ iv = .int .i64 (j : Int) ∧ j ≤ l.length ∧ Below w.heap.size w wr ∧ Hid (Blk wr w.heap.size 26 #[.int .i64 6, .int .i64 i, .string s, .slice a l.length c, .slice b ks.length e]) ∧ Hid (wr.ownsRow (w.heap.size + 1) 9 1 (.slice A0 j cp) j (L.take j))) (fun _ iv _ => l.length - (intOf iv).toNat)
  case atStart => exact ⟨0, _, _, rfl, rfl, Nat.zero_le _, hB1.out, hK1, hide (by simpa using hown1.out)⟩
  case round =>
    obtain ⟨j, A0, cp, rfl, rfl, hjl, hB, hK, hown⟩ := hrel
    clear hB1 hK1 hown1 hB0 hK0
    have zk := hK.out.lt
    by_cases hlt : j < l.length
    · obtain ⟨y, hy⟩ : ∃ y, l[j]? = some y := ⟨_, List.getElem?_eq_getElem hlt⟩
      obtain ⟨g1, o1, he1, hg1, _, k2, i2, s2, a1, n1, d1, a2, n2, d2, h5, hV⟩ := HL.out j y hy
      subst he1
      obtain ⟨f0, f1, f2, f3, f4⟩ := h5.on (hB.block g1 hg1)
      have hg1r : g1 < wr.heap.size := Nat.lt_of_lt_of_le hg1 hB.size
      have hji : (j : Int) < (l.length : Int) := by omega
      have hBC := hB.alloc hB.size (.cells #[.int .i64 k2, .int .i64 i2, .string s2, .slice a1 n1 d1, .slice a2 n2 d2] 26)
      have hKE := Blk.new wr 26 #[.int .i64 k2, .int .i64 i2, .string s2, .slice a1 n1 d1, .slice a2 n2 d2]
      have hKB := hK.out.alloc (.cells #[.int .i64 k2, .int .i64 i2, .string s2, .slice a1 n1 d1, .slice a2 n2 d2] 26)
      have hownC := hown.out.alloc (.cells #[.int .i64 k2, .int .i64 i2, .string s2, .slice a1 n1 d1, .slice a2 n2 d2] 26)
      have hzw : wr.heap.size < (wr.alloc (.cells #[.int .i64 k2, .int .i64 i2, .string s2, .slice a1 n1 d1, .slice a2 n2 d2] 26)).heap.size := by simp
      go_wp2_with fail
      generalize wr.alloc (.cells #[.int .i64 k2, .int .i64 i2, .string s2, .slice a1 n1 d1, .slice a2 n2 d2] 26) = W at hBC hKE hKB hownC hzw ⊢
      have hp : (l.map (litR n))[j]? = some (litR n y) := by rw [List.getElem?_map, hy]; rfl
      have hpart := partK_get 6 ks _ 0 j _ hp
      rw [Nat.zero_add] at hpart
      have hb1 := bodyC_next (keyK 6 ks) (l.map (litR n)) j (litR n y) hp
      have hb2 := bodyC_le (keyK 6 ks) (l.map (litR n)) (j + 1)
      have hT1 := HT.out
      have hlen := congrArg List.length hb1
      simp only [List.length_append] at hlen
      have hcK := fun W' (h : Below W.heap.size W W') => litKey_any 6 i s (some ⟨g1, o1, none⟩) b l.length c e ks j W' (Utf8Tabs_below HTB.out (hBC.trans (h.mono hBC.size))) (HS.out.on (stays_any (hBC.trans (h.mono hBC.size)))) HK.out (by omega)
      have hcI := fun W' (h : Below W.heap.size W W') => IH.out _ y W' (List.mem_of_getElem? hy) (Utf8Tabs_below HTB.out (hBC.trans (h.mono hBC.size))) (IsV.on (stays_any (hBC.trans (h.mono hBC.size))) n _ _ hV)
      have hPs : (⟨(litR n y).toArray⟩ : ByteArray).size = (litR n y).length := mk_size _
      have hKs : (⟨(keyK 6 ks j).toArray⟩ : ByteArray).size = (keyK 6 ks j).length := mk_size _
      have hXP : (⟨(keyK 6 ks j).toArray⟩ : ByteArray).size + (⟨(litR n y).toArray⟩ : ByteArray).size ≤ 100000000000 := by rw [hPs, hKs]; omega
      have HPT := hide (show L.take j ++ [.string ((⟨(keyK 6 ks j).toArray⟩ : ByteArray) ++ (⟨(litR n y).toArray⟩ : ByteArray))] = L.take (j + 1) by
        rw [← HL2.out, List.take_add_one, List.getElem?_map, hpart]
        have : strW (keyK 6 ks j ++ litR n y) = .string ((⟨(keyK 6 ks j).toArray⟩ : ByteArray) ++ (⟨(litR n y).toArray⟩ : ByteArray)) :=
          congrArg Value.string (by apply ByteArray.ext; simp)
        rw [← this]; rfl)
      generalize (⟨(litR n y).toArray⟩ : ByteArray) = P at hcI HPT hXP
      generalize (⟨(keyK 6 ks j).toArray⟩ : ByteArray) = Q at hcK HPT hXP
      have n1 : ¬ (9223372036854775807 < Q.size + P.size) := by omega
      have n2 : ¬ ((9223372036854775807 : Int) < (Q.size : Int) + (P.size : Int)) := by omega
      have hcI := hide hcI; have hcK := hide hcK
      have HOWN := hide hownC; have HBC := hide hBC
      have x0 := hKB.cell 0; have x1 := hKB.cell 1; have x2 := hKB.cell 2; have x3 := hKB.cell 3; have x4 := hKB.cell 4
      have y0 := hKE.cell 0; have y1 := hKE.cell 1; have y2 := hKE.cell 2; have y3 := hKE.cell 3; have y4 := hKE.cell 4
      simp at x0 x1 x2 x3 x4 y0 y1 y2 y3 y4
      have zW : w.heap.size < W.heap.size := by omega
      have HKB := hide hKB; have HKE := hide hKE
      clear hp hpart hb1 hb2 hT1 hlen hPs hKs hV h5 hy hKE hKB hownC hBC f0 f1 f2 f3 f4
      have zWr := HBC.out.size
      go_region_law (first
        | (refine step_append_lies _ rfl (.tmp 65) (.tmp 72) 24 rfl (w.heap.size + 1) 9 i0 (.string ⟨#[]⟩) 1 16 Tryd.underlying24 hi hz0 hz1 hz2s rfl (by decide) (.slice A0 j cp) j _ (by simp [Act.eval, Act.put]) (hownQ.alloc _) ⟨wQ.heap.size, 0, none⟩ 1 1 [.string (Q ++ P)] (by simp [Act.eval, Act.put]) rfl (by intro t u ht; match t, ht with | 0, ht => simp at ht; subst ht; simp [Addr.add]) (by intro u hu; simp at hu; subst hu; rfl) (by omega) (by unfold maxLen; omega) (by omega) (by simp; omega) _ rfl ?_; intro g4 cp4 w4 hown4 hgrow4 hat4 hlt4)
        | (go_simp; go_at_call 43; refine (hcK.out _ (Below.refl _ _).drew).mono ?_; rintro e wP ⟨rfl, hbP⟩; have hBP := (Below.refl W.heap.size W).drew.trans hbP; have hKEP := HKE.out.below hBP hzw; have y0 := hKEP.cell 0; have y1 := hKEP.cell 1; have y2 := hKEP.cell 2; have y3 := hKEP.cell 3; have y4 := hKEP.cell 4; simp at y0 y1 y2 y3 y4; clear hKEP)
        | (go_simp; go_at_call 19; refine (hcI.out _ hBP).mono ?_; rintro e wQ ⟨rfl, hbQ⟩; have hBQ := hBP.trans (hbQ.mono hBP.size); have hownQ := own_keepV HOWN.out hBQ; have hbwQ := HBC.out.trans (hBQ.mono zWr); have hQz := hbwQ.size; have hKQ := hide (HKB.out.below hBQ zW)))
      all_goals
        rw [HPT.out] at hown4
        have hbF := (hbwQ.alloc hQz (.cells #[.string (Q ++ P)] 9)).grown hgrow4 (by simp; omega) (fun q hq => by have := (hownQ.lt q hq).1; omega)
        have hKF := hide ((hKQ.out.alloc (.cells #[.string (Q ++ P)] 9)).grown hgrow4 (fun hq => by have := (hownQ.lt _ hq.symm).1; omega))
        have hownF := hide hown4
        clear hown4 hgrow4 hat4 hownQ hKQ y0 y1 y2 y3 y4 x0 x1 x2 x3 x4
        go_wp2_with fail
        go_roundw
        case rel => exact ⟨j + 1, some ⟨g4, 0, none⟩, cp4, rfl, by go_num, by omega, hbF, hKF, hownF⟩
        case measure => simp [intOf]; omega
    · have hj2 : j = l.length := by omega
      subst hj2
      have hge : decide ((l.length : Int) < (l.length : Int)) = false := by simp
      have hownL := hown.out
      rw [show L.take l.length = L by rw [← LEN.out]; exact List.take_length] at hownL
      have hLz : (partK 6 ks 0 (l.map (litR n))).length = l.length := by rw [partK_len, List.length_map]
      have hT1 := HT.out
      have cJ : Calls Tryd.prog 44 #[.slice A0 l.length cp, .string ⟨#[44]⟩] wr fun e w' => e = .returned (.string R) ∧ Below wr.heap.size wr w' := by
        by_cases h0 : l.length = 0
        · obtain rfl : l = [] := List.length_eq_zero_iff.1 h0
          refine (Tryd.strings_Join_none A0 cp ⟨#[44]⟩ wr).mono ?_
          rintro e w' ⟨rfl, rfl⟩
          refine ⟨?_, Below.refl _ _⟩
          rw [← HR.out]
          rfl
        · obtain ⟨g, hA0, hglt, hncp⟩ : ∃ g, A0 = some ⟨g, 0, none⟩ ∧ g < wr.heap.size ∧ l.length ≤ cp := by
            rcases hownL.2 with ⟨hv, hn⟩ | ⟨g, cap, cur, hv, hBg, hg, hnc, _⟩
            · exact absurd hn h0
            · injection hv with hv1 hv2 hv3
              subst hv3
              exact ⟨g, hv1, lt_of_heap hg, hnc⟩
          subst hA0
          have hm : (((partK 6 ks 0 (l.map (litR n))).map fun x => (⟨x.toArray⟩ : ByteArray)).map (·.data.toList)) = partK 6 ks 0 (l.map (litR n)) := by
            rw [List.map_map]
            exact (List.map_congr_left (fun x _ => rfl)).trans (List.map_id _)
          have cJ := Tryd.strings_Join g 0 cp ((partK 6 ks 0 (l.map (litR n))).map fun x => ⟨x.toArray⟩) ⟨#[44]⟩ wr (by
            intro j x hx
            have := hownL.cells (g := g) rfl j (.string x) (by
              rw [← HL2.out]
              rw [List.getElem?_map] at hx
              obtain ⟨p, hp, rfl⟩ := Option.map_eq_some_iff.1 hx
              simp [hp])
            have ha : (⟨g, 0, none⟩ : Addr).add j = ⟨g, 0 + j, none⟩ := by unfold Addr.add; split <;> simp_all
            rw [ha] at this
            simpa using this) hglt (by simp [hLz]; omega) (by simp [hLz]; omega) (by
            rw [hm, show (⟨#[44]⟩ : ByteArray).data.toList = [44] from rfl, join_body]
            omega)
          rw [hm, List.length_map, show (⟨#[44]⟩ : ByteArray).data.toList = [44] from rfl, join_body, hLz, HR.out] at cJ
          exact cJ
      have cJ := hide cJ
      clear hown hownL hLz hT1
      go_wp2_with fail
      refine (cJ.out).mono ?_
      rintro e w1 ⟨rfl, hb1⟩
      have k1 := (hK.out.below hb1 zk).cell 0
      simp at k1
      go_wp2_with fail
      go_ret
      exact ⟨rfl, hB.trans (hb1.mono hB.size)⟩
theorem refLitP_any : ∀ (n : Nat) (v : Value) (d : VT n) (w : World), TabsU w → IsV anyB w n v d → SmallV n d → NumV n d → massV n d ≤ 1000000000 →
    Calls Tryd.prog 19 #[v] w fun e w' => e = .returned (.string ⟨(litR n d).toArray⟩) ∧ Below w.heap.size w w' := by
  intro n
  induction n with
  | zero => intro v d w _ h; exact h.elim
  | succ n ih =>
    intro v d w hT h hsm hnm hms
    have hpl := litR_len (n + 1) d hnm
    obtain ⟨k, i, s, l, ks⟩ := d
    obtain ⟨a, c, b, e, rfl, hS, hL⟩ := h.parts
    obtain ⟨_, hz2, hz3, hz4, hz5⟩ := hsm
    obtain ⟨hi, hn5⟩ := hnm
    have hz2 : l.length * 80 ≤ 140737488351232 := hz2
    have hz5 : ∀ x ∈ l, SmallV n x := hz5
    have hn5 : ∀ x ∈ l, NumV n x := hn5
    rw [massV_succ] at hms hpl
    have hms2 : 1 + s.length + sumBy (fun k => k.length + 1) ks + sumBy (massV n) l ≤ 1000000000 := hms
    have hk4 : ∀ k ∈ ks, k.length ≤ 1000000000 := fun k hk => by
      have := sumBy_mem (fun k : List UInt8 => k.length + 1) ks k hk
      omega
    have hP : ∀ (v : Value) (x : VT n) (W : World), x ∈ l → TabsU W → IsV anyB W n v x → Calls Tryd.prog 19 #[v] W fun e w' => e = .returned (.string ⟨(litR n x).toArray⟩) ∧ Below W.heap.size W w' :=
      fun v x W hx hT hv => ih v x W hT hv (hz5 x hx) (hn5 x hx) (by have := sumBy_mem (massV n) l x hx; omega)
    rw [lit_mk] at hpl ⊢
    have hq : _ ≤ 30 * (1 + s.length + sumBy (fun k => k.length + 1) ks + sumBy (massV n) l) := hpl
    clear hpl
    by_cases h0 : k = 0
    · rw [if_pos h0]; exact litP_low _ _ _ _ _ _ _ _ _ _ _ (.inl ⟨h0, rfl⟩)
    rw [if_neg h0] at hq ⊢
    by_cases h1 : k = 1
    · rw [if_pos h1]; exact litP_low _ _ _ _ _ _ _ _ _ _ _ (.inr (.inl ⟨h1, rfl⟩))
    rw [if_neg h1] at hq ⊢
    by_cases h2 : k = 2
    · rw [if_pos h2]; exact litP_low _ _ _ _ _ _ _ _ _ _ _ (.inr (.inr ⟨h2, rfl⟩))
    rw [if_neg h2] at hq ⊢
    by_cases h3 : k = 3
    · rw [if_pos h3]; subst h3; exact litP_three i _ _ _ _ _ _ _ _ hi.1 hi.2
    rw [if_neg h3] at hq ⊢
    by_cases h5 : k = 5
    · rw [if_pos h5, partsL_none] at hq ⊢
      subst h5
      exact litP_many5 i _ l ks a b c e w hT hS hL hz2 hk4 (by have h9 := hq; rw [List.length_cons, List.length_append] at h9; rw [keyK_list]; omega) hP
    rw [if_neg h5] at hq ⊢
    by_cases h6 : k = 6
    · rw [if_pos h6, partsL_some] at hq ⊢
      subst h6
      exact litP_many6 i _ l ks a b c e w hT hS hL hz2 hk4 (by have h9 := hq; rw [List.length_cons, List.length_append] at h9; rw [keyK_rec]; omega) hP
    rw [if_neg h6]
    exact litP_else k i s _ _ _ _ _ _ _ (by omega) (by omega) hT
end Go.Proofs.YtdnmgpidfjkiaaaDoor
