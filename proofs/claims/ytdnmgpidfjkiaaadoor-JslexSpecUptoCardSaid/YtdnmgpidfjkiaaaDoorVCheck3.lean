/-
  The page's check of a value: the kinds without parts.
-/
import Derived.Test.YtdnmgpidfjkiaaaDoorVCheck2
namespace Go.Proofs.YtdnmgpidfjkiaaaDoor
open Go.RowKit
set_option linter.unusedVariables false
set_option linter.unusedSimpArgs false

set_option maxHeartbeats 8000000 in
set_option maxRecDepth 100000 in
theorem check_k4 {n : Nat} (U : World → Nat → Prop) (hU : ∀ w w' b, Below w.heap.size w w' → b < w.heap.size → U w b → U w' b) (i : Int) (s : List UInt8) (l : List (VT n)) (ks : List (List UInt8)) (a b : Option Addr) (c e deep : Nat) (w : World) (hd : deep ≤ 16)
    (hS : StrsAt U w b ks) (hL : ValsAt U w (IsV U w n) a l) (hz2 : l.length * 80 ≤ 140737488351232) (hz3 : ks.length * 16 ≤ 140737488351232) (hk5 : ∀ k ∈ ks, k.length ≤ 140737488351232)
    (ih : ∀ (v : Value) (x : VT n) (w : World), x ∈ l → IsV U w n v x → deep + 1 ≤ 16 → Calls Tryd.prog 41 #[v, .int .i64 ((deep : Int) + 1)] w fun e w' => e = .returned (.int .i64 (checkV n (deep + 1) x)) ∧ Below w.heap.size w w') :
    Calls Tryd.prog 41 #[valV 4 i ⟨s.toArray⟩ a l.length c b ks.length e, .int .i64 (deep : Int)] w fun e w' => e = .returned (.int .i64 (checkV (n + 1) deep (⟨4, i, s, l, ks⟩ : VN (VT n)))) ∧ Below w.heap.size w w' := by
  have hB0 : ∀ o1, Below w.heap.size w (w.alloc o1) := fun o1 => (Below.refl _ _).alloc (Nat.le_refl _) _
  have HB0 := hide hB0
  clear hB0
  have hxs : ((⟨s.toArray⟩ : ByteArray).size : Int) = (s.length : Int) := by rw [mkSize]
  have hxe : (⟨s.toArray⟩ : ByteArray).toList.isEmpty = decide (s.length = 0) := by rw [ByteArray.toList_eq]; cases s <;> simp
  obtain ⟨X, hX⟩ : ∃ x : ByteArray, (⟨s.toArray⟩ : ByteArray) = x := ⟨_, rfl⟩
  rw [hX] at hxs hxe ⊢
  have HXS := hide hxs; have HXE := hide hxe
  clear hX hxs hxe
  by_cases g2 : 4096 < s.length
  · have g2' : decide ((4096 : Int) < (X.size : Int)) = true := by rw [HXS.out]; exact decide_eq_true (by omega)
    rw [checkV_head (show headErr _ _ _ _ _ _ _ = 5 by unfold headErr; rw [if_neg (by omega), if_pos g2]) (by decide)]
    clear hS hL hk5 ih
    go_enter Tryd.func41, Tryd.ntmps41
    go_wp2_with fail
    repeat (go_quiet (fail); go_wp2_with fail)
    go_ret
    exact ⟨rfl, (by first | exact HB0.out _ | exact below_drewN (HB0.out _) _)⟩
  have g2' : decide ((4096 : Int) < (X.size : Int)) = false := by rw [HXS.out]; exact decide_eq_false (by omega)
  by_cases g3 : 1024 < l.length
  · have g3' : decide ((1024 : Int) < (l.length : Int)) = true := decide_eq_true (by omega)
    rw [checkV_head (show headErr _ _ _ _ _ _ _ = 3 by unfold headErr; rw [if_neg (by omega), if_neg (by omega), if_pos (.inl g3)]) (by decide)]
    clear hS hL hk5 ih
    go_enter Tryd.func41, Tryd.ntmps41
    go_wp2_with fail
    repeat (go_quiet (fail); go_wp2_with fail)
    go_ret
    exact ⟨rfl, (by first | exact HB0.out _ | exact below_drewN (HB0.out _) _)⟩
  have g3' : decide ((1024 : Int) < (l.length : Int)) = false := decide_eq_false (by omega)
  by_cases g4 : 1024 < ks.length
  · have g4' : decide ((1024 : Int) < (ks.length : Int)) = true := decide_eq_true (by omega)
    rw [checkV_head (show headErr _ _ _ _ _ _ _ = 3 by unfold headErr; rw [if_neg (by omega), if_neg (by omega), if_pos (.inr g4)]) (by decide)]
    clear hS hL hk5 ih
    go_enter Tryd.func41, Tryd.ntmps41
    go_wp2_with fail
    repeat (go_quiet (fail); go_wp2_with fail)
    go_ret
    exact ⟨rfl, (by first | exact HB0.out _ | exact below_drewN (HB0.out _) _)⟩
  have g4' : decide ((1024 : Int) < (ks.length : Int)) = false := decide_eq_false (by omega)
  by_cases g5 : i ≠ 0
  · have g5' : (i != 0) = true := by simpa using g5
    rw [checkV_head (show headErr _ _ _ _ _ _ _ = 9 by unfold headErr; rw [if_neg (by omega), if_neg (by omega), if_neg (by omega), if_pos (by omega)]) (by decide)]
    clear hS hL hk5 ih
    go_enter Tryd.func41, Tryd.ntmps41
    go_wp2_with fail
    repeat (go_quiet (fail); go_wp2_with fail)
    go_ret
    exact ⟨rfl, (by first | exact HB0.out _ | exact below_drewN (HB0.out _) _)⟩
  have g5' : (i != 0) = false := by simpa using g5
  by_cases g7 : l.length ≠ 0
  · have g7' : decide (0 < l.length) = true := decide_eq_true (by omega)
    rw [checkV_head (show headErr _ _ _ _ _ _ _ = 9 by unfold headErr; rw [if_neg (by omega), if_neg (by omega), if_neg (by omega), if_pos (by omega)]) (by decide)]
    clear hS hL hk5 ih
    go_enter Tryd.func41, Tryd.ntmps41
    go_wp2_with fail
    repeat (go_quiet (fail); go_wp2_with fail)
    go_ret
    exact ⟨rfl, (by first | exact HB0.out _ | exact below_drewN (HB0.out _) _)⟩
  have g7' : decide (0 < l.length) = false := decide_eq_false (by omega)
  by_cases g8 : ks.length ≠ 0
  · have g8' : decide (0 < ks.length) = true := decide_eq_true (by omega)
    rw [checkV_head (show headErr _ _ _ _ _ _ _ = 9 by unfold headErr; rw [if_neg (by omega), if_neg (by omega), if_neg (by omega), if_pos (by omega)]) (by decide)]
    clear hS hL hk5 ih
    go_enter Tryd.func41, Tryd.ntmps41
    go_wp2_with fail
    repeat (go_quiet (fail); go_wp2_with fail)
    go_ret
    exact ⟨rfl, (by first | exact HB0.out _ | exact below_drewN (HB0.out _) _)⟩
  have g8' : decide (0 < ks.length) = false := decide_eq_false (by omega)
  obtain rfl : l = [] := List.length_eq_zero_iff.1 (by omega)
  have hE : headErr deep 4 i s.length ([] : List (VT n)).length ks.length (risingK ks) = 0 := headErr_zero (by omega) (by omega) (by simp only [List.length_nil] at *; omega) (by simp only [List.length_nil] at *; omega) (fun h => by have := h.1; omega)
  rw [checkV_good hE, show firstE (([] : List (VT n)).map (checkV n (deep + 1))) = 0 from rfl]
  clear hE
  simp only [List.length_nil] at *
  have z1 : w.heap.size < (w.alloc (.cells #[.int .i64 4, .int .i64 i, .string X, .slice a 0 c, .slice b ks.length e] 26)).heap.size := by simp
  have K1 := Blk.new w 26 #[.int .i64 4, .int .i64 i, .string X, .slice a 0 c, .slice b ks.length e]
  have hBW := HB0.out (.cells #[.int .i64 4, .int .i64 i, .string X, .slice a 0 c, .slice b ks.length e] 26)
  clear hS hL hk5 ih
  go_enter Tryd.func41, Tryd.ntmps41
  go_wp2_with fail
  repeat (go_quiet (fail); go_wp2_with fail)
  generalize w.alloc (.cells #[.int .i64 4, .int .i64 i, .string X, .slice a 0 c, .slice b ks.length e] 26) = W at K1 hBW z1 ⊢
  have p3 := K1.cell 3
  simp at p3
  go_loopw [7] (fun i wr => ∃ j : Nat, i = .int .i64 (j : Int) ∧ j ≤ 0 ∧ wr = W) (fun i _ => 0)
  case atStart => exact ⟨0, rfl, Nat.le_refl _, rfl⟩
  case round =>
    obtain ⟨j, rfl, hj, rfl⟩ := hrel
    obtain rfl : j = 0 := by omega
    go_wp2_with fail
    go_ret
    exact ⟨rfl, hBW⟩

set_option maxHeartbeats 8000000 in
set_option maxRecDepth 100000 in
theorem check_k3 {n : Nat} (U : World → Nat → Prop) (hU : ∀ w w' b, Below w.heap.size w w' → b < w.heap.size → U w b → U w' b) (i : Int) (s : List UInt8) (l : List (VT n)) (ks : List (List UInt8)) (a b : Option Addr) (c e deep : Nat) (w : World) (hd : deep ≤ 16)
    (hS : StrsAt U w b ks) (hL : ValsAt U w (IsV U w n) a l) (hz2 : l.length * 80 ≤ 140737488351232) (hz3 : ks.length * 16 ≤ 140737488351232) (hk5 : ∀ k ∈ ks, k.length ≤ 140737488351232)
    (ih : ∀ (v : Value) (x : VT n) (w : World), x ∈ l → IsV U w n v x → deep + 1 ≤ 16 → Calls Tryd.prog 41 #[v, .int .i64 ((deep : Int) + 1)] w fun e w' => e = .returned (.int .i64 (checkV n (deep + 1) x)) ∧ Below w.heap.size w w') :
    Calls Tryd.prog 41 #[valV 3 i ⟨s.toArray⟩ a l.length c b ks.length e, .int .i64 (deep : Int)] w fun e w' => e = .returned (.int .i64 (checkV (n + 1) deep (⟨3, i, s, l, ks⟩ : VN (VT n)))) ∧ Below w.heap.size w w' := by
  have hB0 : ∀ o1, Below w.heap.size w (w.alloc o1) := fun o1 => (Below.refl _ _).alloc (Nat.le_refl _) _
  have HB0 := hide hB0
  clear hB0
  have hxs : ((⟨s.toArray⟩ : ByteArray).size : Int) = (s.length : Int) := by rw [mkSize]
  have hxe : (⟨s.toArray⟩ : ByteArray).toList.isEmpty = decide (s.length = 0) := by rw [ByteArray.toList_eq]; cases s <;> simp
  obtain ⟨X, hX⟩ : ∃ x : ByteArray, (⟨s.toArray⟩ : ByteArray) = x := ⟨_, rfl⟩
  rw [hX] at hxs hxe ⊢
  have HXS := hide hxs; have HXE := hide hxe
  clear hX hxs hxe
  by_cases g2 : 4096 < s.length
  · have g2' : decide ((4096 : Int) < (X.size : Int)) = true := by rw [HXS.out]; exact decide_eq_true (by omega)
    rw [checkV_head (show headErr _ _ _ _ _ _ _ = 5 by unfold headErr; rw [if_neg (by omega), if_pos g2]) (by decide)]
    clear hS hL hk5 ih
    go_enter Tryd.func41, Tryd.ntmps41
    go_wp2_with fail
    repeat (go_quiet (fail); go_wp2_with fail)
    go_ret
    exact ⟨rfl, (by first | exact HB0.out _ | exact below_drewN (HB0.out _) _)⟩
  have g2' : decide ((4096 : Int) < (X.size : Int)) = false := by rw [HXS.out]; exact decide_eq_false (by omega)
  by_cases g3 : 1024 < l.length
  · have g3' : decide ((1024 : Int) < (l.length : Int)) = true := decide_eq_true (by omega)
    rw [checkV_head (show headErr _ _ _ _ _ _ _ = 3 by unfold headErr; rw [if_neg (by omega), if_neg (by omega), if_pos (.inl g3)]) (by decide)]
    clear hS hL hk5 ih
    go_enter Tryd.func41, Tryd.ntmps41
    go_wp2_with fail
    repeat (go_quiet (fail); go_wp2_with fail)
    go_ret
    exact ⟨rfl, (by first | exact HB0.out _ | exact below_drewN (HB0.out _) _)⟩
  have g3' : decide ((1024 : Int) < (l.length : Int)) = false := decide_eq_false (by omega)
  by_cases g4 : 1024 < ks.length
  · have g4' : decide ((1024 : Int) < (ks.length : Int)) = true := decide_eq_true (by omega)
    rw [checkV_head (show headErr _ _ _ _ _ _ _ = 3 by unfold headErr; rw [if_neg (by omega), if_neg (by omega), if_pos (.inr g4)]) (by decide)]
    clear hS hL hk5 ih
    go_enter Tryd.func41, Tryd.ntmps41
    go_wp2_with fail
    repeat (go_quiet (fail); go_wp2_with fail)
    go_ret
    exact ⟨rfl, (by first | exact HB0.out _ | exact below_drewN (HB0.out _) _)⟩
  have g4' : decide ((1024 : Int) < (ks.length : Int)) = false := decide_eq_false (by omega)
  by_cases g6 : s.length ≠ 0
  · have g6' : X.toList.isEmpty = false := by rw [HXE.out]; exact decide_eq_false g6
    rw [checkV_head (show headErr _ _ _ _ _ _ _ = 9 by unfold headErr; rw [if_neg (by omega), if_neg (by omega), if_neg (by omega), if_pos (by omega)]) (by decide)]
    clear hS hL hk5 ih
    go_enter Tryd.func41, Tryd.ntmps41
    go_wp2_with fail
    repeat (go_quiet (fail); go_wp2_with fail)
    go_ret
    exact ⟨rfl, (by first | exact HB0.out _ | exact below_drewN (HB0.out _) _)⟩
  have g6' : X.toList.isEmpty = true := by rw [HXE.out]; exact decide_eq_true (by omega)
  by_cases g7 : l.length ≠ 0
  · have g7' : decide (0 < l.length) = true := decide_eq_true (by omega)
    rw [checkV_head (show headErr _ _ _ _ _ _ _ = 9 by unfold headErr; rw [if_neg (by omega), if_neg (by omega), if_neg (by omega), if_pos (by omega)]) (by decide)]
    clear hS hL hk5 ih
    go_enter Tryd.func41, Tryd.ntmps41
    go_wp2_with fail
    repeat (go_quiet (fail); go_wp2_with fail)
    go_ret
    exact ⟨rfl, (by first | exact HB0.out _ | exact below_drewN (HB0.out _) _)⟩
  have g7' : decide (0 < l.length) = false := decide_eq_false (by omega)
  by_cases g8 : ks.length ≠ 0
  · have g8' : decide (0 < ks.length) = true := decide_eq_true (by omega)
    rw [checkV_head (show headErr _ _ _ _ _ _ _ = 9 by unfold headErr; rw [if_neg (by omega), if_neg (by omega), if_neg (by omega), if_pos (by omega)]) (by decide)]
    clear hS hL hk5 ih
    go_enter Tryd.func41, Tryd.ntmps41
    go_wp2_with fail
    repeat (go_quiet (fail); go_wp2_with fail)
    go_ret
    exact ⟨rfl, (by first | exact HB0.out _ | exact below_drewN (HB0.out _) _)⟩
  have g8' : decide (0 < ks.length) = false := decide_eq_false (by omega)
  obtain rfl : l = [] := List.length_eq_zero_iff.1 (by omega)
  have hE : headErr deep 3 i s.length ([] : List (VT n)).length ks.length (risingK ks) = 0 := headErr_zero (by omega) (by omega) (by simp only [List.length_nil] at *; omega) (by simp only [List.length_nil] at *; omega) (fun h => by have := h.1; omega)
  rw [checkV_good hE, show firstE (([] : List (VT n)).map (checkV n (deep + 1))) = 0 from rfl]
  clear hE
  simp only [List.length_nil] at *
  have z1 : w.heap.size < (w.alloc (.cells #[.int .i64 3, .int .i64 i, .string X, .slice a 0 c, .slice b ks.length e] 26)).heap.size := by simp
  have K1 := Blk.new w 26 #[.int .i64 3, .int .i64 i, .string X, .slice a 0 c, .slice b ks.length e]
  have hBW := HB0.out (.cells #[.int .i64 3, .int .i64 i, .string X, .slice a 0 c, .slice b ks.length e] 26)
  clear hS hL hk5 ih
  go_enter Tryd.func41, Tryd.ntmps41
  go_wp2_with fail
  repeat (go_quiet (fail); go_wp2_with fail)
  generalize w.alloc (.cells #[.int .i64 3, .int .i64 i, .string X, .slice a 0 c, .slice b ks.length e] 26) = W at K1 hBW z1 ⊢
  have p3 := K1.cell 3
  simp at p3
  go_loopw [7] (fun i wr => ∃ j : Nat, i = .int .i64 (j : Int) ∧ j ≤ 0 ∧ wr = W) (fun i _ => 0)
  case atStart => exact ⟨0, rfl, Nat.le_refl _, rfl⟩
  case round =>
    obtain ⟨j, rfl, hj, rfl⟩ := hrel
    obtain rfl : j = 0 := by omega
    go_wp2_with fail
    go_ret
    exact ⟨rfl, hBW⟩

set_option maxHeartbeats 8000000 in
set_option maxRecDepth 100000 in
theorem check_kT {n : Nat} (U : World → Nat → Prop) (hU : ∀ w w' b, Below w.heap.size w w' → b < w.heap.size → U w b → U w' b) (k : Int) (h7 : 7 ≤ k) (h11 : k ≤ 11) (i : Int) (s : List UInt8) (l : List (VT n)) (ks : List (List UInt8)) (a b : Option Addr) (c e deep : Nat) (w : World) (hd : deep ≤ 16)
    (hS : StrsAt U w b ks) (hL : ValsAt U w (IsV U w n) a l) (hz2 : l.length * 80 ≤ 140737488351232) (hz3 : ks.length * 16 ≤ 140737488351232) (hk5 : ∀ k ∈ ks, k.length ≤ 140737488351232)
    (ih : ∀ (v : Value) (x : VT n) (w : World), x ∈ l → IsV U w n v x → deep + 1 ≤ 16 → Calls Tryd.prog 41 #[v, .int .i64 ((deep : Int) + 1)] w fun e w' => e = .returned (.int .i64 (checkV n (deep + 1) x)) ∧ Below w.heap.size w w') :
    Calls Tryd.prog 41 #[valV k i ⟨s.toArray⟩ a l.length c b ks.length e, .int .i64 (deep : Int)] w fun e w' => e = .returned (.int .i64 (checkV (n + 1) deep (⟨k, i, s, l, ks⟩ : VN (VT n)))) ∧ Below w.heap.size w w' := by
  have hB0 : ∀ o1, Below w.heap.size w (w.alloc o1) := fun o1 => (Below.refl _ _).alloc (Nat.le_refl _) _
  have HB0 := hide hB0
  clear hB0
  have hxs : ((⟨s.toArray⟩ : ByteArray).size : Int) = (s.length : Int) := by rw [mkSize]
  have hxe : (⟨s.toArray⟩ : ByteArray).toList.isEmpty = decide (s.length = 0) := by rw [ByteArray.toList_eq]; cases s <;> simp
  obtain ⟨X, hX⟩ : ∃ x : ByteArray, (⟨s.toArray⟩ : ByteArray) = x := ⟨_, rfl⟩
  rw [hX] at hxs hxe ⊢
  have HXS := hide hxs; have HXE := hide hxe
  clear hX hxs hxe
  have e5 : (k == 5) = false := by rw [beq_eq_false_iff_ne]; omega
  have e6 : (k == 6) = false := by rw [beq_eq_false_iff_ne]; omega
  have e4 : (k == 4) = false := by rw [beq_eq_false_iff_ne]; omega
  have n3 : (k != 3) = true := by rw [bne_iff_ne]; omega
  have n6 : (k != 6) = true := by rw [bne_iff_ne]; omega
  have l0 : decide (k < 0) = false := decide_eq_false (by omega)
  have l11 : decide (11 < k) = false := decide_eq_false (by omega)
  have l7 : decide (7 ≤ k) = true := decide_eq_true (by omega)
  by_cases g2 : 4096 < s.length
  · have g2' : decide ((4096 : Int) < (X.size : Int)) = true := by rw [HXS.out]; exact decide_eq_true (by omega)
    rw [checkV_head (show headErr _ _ _ _ _ _ _ = 5 by unfold headErr; rw [if_neg (by omega), if_pos g2]) (by decide)]
    clear hS hL hk5 ih
    go_enter Tryd.func41, Tryd.ntmps41
    go_wp2_with fail
    repeat (go_quiet (fail); go_wp2_with fail)
    go_ret
    exact ⟨rfl, (by first | exact HB0.out _ | exact below_drewN (HB0.out _) _)⟩
  have g2' : decide ((4096 : Int) < (X.size : Int)) = false := by rw [HXS.out]; exact decide_eq_false (by omega)
  by_cases g3 : 1024 < l.length
  · have g3' : decide ((1024 : Int) < (l.length : Int)) = true := decide_eq_true (by omega)
    rw [checkV_head (show headErr _ _ _ _ _ _ _ = 3 by unfold headErr; rw [if_neg (by omega), if_neg (by omega), if_pos (.inl g3)]) (by decide)]
    clear hS hL hk5 ih
    go_enter Tryd.func41, Tryd.ntmps41
    go_wp2_with fail
    repeat (go_quiet (fail); go_wp2_with fail)
    go_ret
    exact ⟨rfl, (by first | exact HB0.out _ | exact below_drewN (HB0.out _) _)⟩
  have g3' : decide ((1024 : Int) < (l.length : Int)) = false := decide_eq_false (by omega)
  by_cases g4 : 1024 < ks.length
  · have g4' : decide ((1024 : Int) < (ks.length : Int)) = true := decide_eq_true (by omega)
    rw [checkV_head (show headErr _ _ _ _ _ _ _ = 3 by unfold headErr; rw [if_neg (by omega), if_neg (by omega), if_pos (.inr g4)]) (by decide)]
    clear hS hL hk5 ih
    go_enter Tryd.func41, Tryd.ntmps41
    go_wp2_with fail
    repeat (go_quiet (fail); go_wp2_with fail)
    go_ret
    exact ⟨rfl, (by first | exact HB0.out _ | exact below_drewN (HB0.out _) _)⟩
  have g4' : decide ((1024 : Int) < (ks.length : Int)) = false := decide_eq_false (by omega)
  by_cases g5 : i ≠ 0
  · have g5' : (i != 0) = true := by simpa using g5
    rw [checkV_head (show headErr _ _ _ _ _ _ _ = 9 by unfold headErr; rw [if_neg (by omega), if_neg (by omega), if_neg (by omega), if_pos (by omega)]) (by decide)]
    clear hS hL hk5 ih
    go_enter Tryd.func41, Tryd.ntmps41
    go_wp2_with fail
    repeat (go_quiet (fail); go_wp2_with fail)
    go_ret
    exact ⟨rfl, (by first | exact HB0.out _ | exact below_drewN (HB0.out _) _)⟩
  have g5' : (i != 0) = false := by simpa using g5
  by_cases g7 : l.length ≠ 0
  · have g7' : decide (0 < l.length) = true := decide_eq_true (by omega)
    rw [checkV_head (show headErr _ _ _ _ _ _ _ = 9 by unfold headErr; rw [if_neg (by omega), if_neg (by omega), if_neg (by omega), if_pos (by omega)]) (by decide)]
    clear hS hL hk5 ih
    go_enter Tryd.func41, Tryd.ntmps41
    go_wp2_with fail
    repeat (go_quiet (fail); go_wp2_with fail)
    go_ret
    exact ⟨rfl, (by first | exact HB0.out _ | exact below_drewN (HB0.out _) _)⟩
  have g7' : decide (0 < l.length) = false := decide_eq_false (by omega)
  by_cases g8 : ks.length ≠ 0
  · have g8' : decide (0 < ks.length) = true := decide_eq_true (by omega)
    rw [checkV_head (show headErr _ _ _ _ _ _ _ = 9 by unfold headErr; rw [if_neg (by omega), if_neg (by omega), if_neg (by omega), if_pos (by omega)]) (by decide)]
    clear hS hL hk5 ih
    go_enter Tryd.func41, Tryd.ntmps41
    go_wp2_with fail
    repeat (go_quiet (fail); go_wp2_with fail)
    go_ret
    exact ⟨rfl, (by first | exact HB0.out _ | exact below_drewN (HB0.out _) _)⟩
  have g8' : decide (0 < ks.length) = false := decide_eq_false (by omega)
  obtain rfl : l = [] := List.length_eq_zero_iff.1 (by omega)
  have hE : headErr deep k i s.length ([] : List (VT n)).length ks.length (risingK ks) = 0 := headErr_zero (by omega) (by omega) (by simp only [List.length_nil] at *; omega) (by simp only [List.length_nil] at *; omega) (fun h => by have := h.1; omega)
  rw [checkV_good hE, show firstE (([] : List (VT n)).map (checkV n (deep + 1))) = 0 from rfl]
  clear hE
  simp only [List.length_nil] at *
  have z1 : w.heap.size < (w.alloc (.cells #[.int .i64 k, .int .i64 i, .string X, .slice a 0 c, .slice b ks.length e] 26)).heap.size := by simp
  have K1 := Blk.new w 26 #[.int .i64 k, .int .i64 i, .string X, .slice a 0 c, .slice b ks.length e]
  have hBW := HB0.out (.cells #[.int .i64 k, .int .i64 i, .string X, .slice a 0 c, .slice b ks.length e] 26)
  clear hS hL hk5 ih
  go_enter Tryd.func41, Tryd.ntmps41
  go_wp2_with fail
  repeat (go_quiet (fail); go_wp2_with fail)
  generalize w.alloc (.cells #[.int .i64 k, .int .i64 i, .string X, .slice a 0 c, .slice b ks.length e] 26) = W at K1 hBW z1 ⊢
  have p3 := K1.cell 3
  simp at p3
  go_loopw [7] (fun i wr => ∃ j : Nat, i = .int .i64 (j : Int) ∧ j ≤ 0 ∧ wr = W) (fun i _ => 0)
  case atStart => exact ⟨0, rfl, Nat.le_refl _, rfl⟩
  case round =>
    obtain ⟨j, rfl, hj, rfl⟩ := hrel
    obtain rfl : j = 0 := by omega
    go_wp2_with fail
    go_ret
    exact ⟨rfl, hBW⟩

set_option maxHeartbeats 8000000 in
set_option maxRecDepth 100000 in
theorem check_kD {n : Nat} (U : World → Nat → Prop) (hU : ∀ w w' b, Below w.heap.size w w' → b < w.heap.size → U w b → U w' b) (k : Int) (h0 : 0 ≤ k) (h2 : k ≤ 2) (i : Int) (s : List UInt8) (l : List (VT n)) (ks : List (List UInt8)) (a b : Option Addr) (c e deep : Nat) (w : World) (hd : deep ≤ 16)
    (hS : StrsAt U w b ks) (hL : ValsAt U w (IsV U w n) a l) (hz2 : l.length * 80 ≤ 140737488351232) (hz3 : ks.length * 16 ≤ 140737488351232) (hk5 : ∀ k ∈ ks, k.length ≤ 140737488351232)
    (ih : ∀ (v : Value) (x : VT n) (w : World), x ∈ l → IsV U w n v x → deep + 1 ≤ 16 → Calls Tryd.prog 41 #[v, .int .i64 ((deep : Int) + 1)] w fun e w' => e = .returned (.int .i64 (checkV n (deep + 1) x)) ∧ Below w.heap.size w w') :
    Calls Tryd.prog 41 #[valV k i ⟨s.toArray⟩ a l.length c b ks.length e, .int .i64 (deep : Int)] w fun e w' => e = .returned (.int .i64 (checkV (n + 1) deep (⟨k, i, s, l, ks⟩ : VN (VT n)))) ∧ Below w.heap.size w w' := by
  have hB0 : ∀ o1, Below w.heap.size w (w.alloc o1) := fun o1 => (Below.refl _ _).alloc (Nat.le_refl _) _
  have HB0 := hide hB0
  clear hB0
  have hxs : ((⟨s.toArray⟩ : ByteArray).size : Int) = (s.length : Int) := by rw [mkSize]
  have hxe : (⟨s.toArray⟩ : ByteArray).toList.isEmpty = decide (s.length = 0) := by rw [ByteArray.toList_eq]; cases s <;> simp
  obtain ⟨X, hX⟩ : ∃ x : ByteArray, (⟨s.toArray⟩ : ByteArray) = x := ⟨_, rfl⟩
  rw [hX] at hxs hxe ⊢
  have HXS := hide hxs; have HXE := hide hxe
  clear hX hxs hxe
  have e5 : (k == 5) = false := by rw [beq_eq_false_iff_ne]; omega
  have e6 : (k == 6) = false := by rw [beq_eq_false_iff_ne]; omega
  have e4 : (k == 4) = false := by rw [beq_eq_false_iff_ne]; omega
  have n3 : (k != 3) = true := by rw [bne_iff_ne]; omega
  have n6 : (k != 6) = true := by rw [bne_iff_ne]; omega
  have l0 : decide (k < 0) = false := decide_eq_false (by omega)
  have l11 : decide (11 < k) = false := decide_eq_false (by omega)
  have l7 : decide (7 ≤ k) = false := decide_eq_false (by omega)
  by_cases g2 : 4096 < s.length
  · have g2' : decide ((4096 : Int) < (X.size : Int)) = true := by rw [HXS.out]; exact decide_eq_true (by omega)
    rw [checkV_head (show headErr _ _ _ _ _ _ _ = 5 by unfold headErr; rw [if_neg (by omega), if_pos g2]) (by decide)]
    clear hS hL hk5 ih
    go_enter Tryd.func41, Tryd.ntmps41
    go_wp2_with fail
    repeat (go_quiet (fail); go_wp2_with fail)
    go_ret
    exact ⟨rfl, (by first | exact HB0.out _ | exact below_drewN (HB0.out _) _)⟩
  have g2' : decide ((4096 : Int) < (X.size : Int)) = false := by rw [HXS.out]; exact decide_eq_false (by omega)
  by_cases g3 : 1024 < l.length
  · have g3' : decide ((1024 : Int) < (l.length : Int)) = true := decide_eq_true (by omega)
    rw [checkV_head (show headErr _ _ _ _ _ _ _ = 3 by unfold headErr; rw [if_neg (by omega), if_neg (by omega), if_pos (.inl g3)]) (by decide)]
    clear hS hL hk5 ih
    go_enter Tryd.func41, Tryd.ntmps41
    go_wp2_with fail
    repeat (go_quiet (fail); go_wp2_with fail)
    go_ret
    exact ⟨rfl, (by first | exact HB0.out _ | exact below_drewN (HB0.out _) _)⟩
  have g3' : decide ((1024 : Int) < (l.length : Int)) = false := decide_eq_false (by omega)
  by_cases g4 : 1024 < ks.length
  · have g4' : decide ((1024 : Int) < (ks.length : Int)) = true := decide_eq_true (by omega)
    rw [checkV_head (show headErr _ _ _ _ _ _ _ = 3 by unfold headErr; rw [if_neg (by omega), if_neg (by omega), if_pos (.inr g4)]) (by decide)]
    clear hS hL hk5 ih
    go_enter Tryd.func41, Tryd.ntmps41
    go_wp2_with fail
    repeat (go_quiet (fail); go_wp2_with fail)
    go_ret
    exact ⟨rfl, (by first | exact HB0.out _ | exact below_drewN (HB0.out _) _)⟩
  have g4' : decide ((1024 : Int) < (ks.length : Int)) = false := decide_eq_false (by omega)
  by_cases g5 : i ≠ 0
  · have g5' : (i != 0) = true := by simpa using g5
    rw [checkV_head (show headErr _ _ _ _ _ _ _ = 9 by unfold headErr; rw [if_neg (by omega), if_neg (by omega), if_neg (by omega), if_pos (by omega)]) (by decide)]
    clear hS hL hk5 ih
    go_enter Tryd.func41, Tryd.ntmps41
    go_wp2_with fail
    repeat (go_quiet (fail); go_wp2_with fail)
    go_ret
    exact ⟨rfl, (by first | exact HB0.out _ | exact below_drewN (HB0.out _) _)⟩
  have g5' : (i != 0) = false := by simpa using g5
  by_cases g6 : s.length ≠ 0
  · have g6' : X.toList.isEmpty = false := by rw [HXE.out]; exact decide_eq_false g6
    rw [checkV_head (show headErr _ _ _ _ _ _ _ = 9 by unfold headErr; rw [if_neg (by omega), if_neg (by omega), if_neg (by omega), if_pos (by omega)]) (by decide)]
    clear hS hL hk5 ih
    go_enter Tryd.func41, Tryd.ntmps41
    go_wp2_with fail
    repeat (go_quiet (fail); go_wp2_with fail)
    go_ret
    exact ⟨rfl, (by first | exact HB0.out _ | exact below_drewN (HB0.out _) _)⟩
  have g6' : X.toList.isEmpty = true := by rw [HXE.out]; exact decide_eq_true (by omega)
  by_cases g7 : l.length ≠ 0
  · have g7' : decide (0 < l.length) = true := decide_eq_true (by omega)
    rw [checkV_head (show headErr _ _ _ _ _ _ _ = 9 by unfold headErr; rw [if_neg (by omega), if_neg (by omega), if_neg (by omega), if_pos (by omega)]) (by decide)]
    clear hS hL hk5 ih
    go_enter Tryd.func41, Tryd.ntmps41
    go_wp2_with fail
    repeat (go_quiet (fail); go_wp2_with fail)
    go_ret
    exact ⟨rfl, (by first | exact HB0.out _ | exact below_drewN (HB0.out _) _)⟩
  have g7' : decide (0 < l.length) = false := decide_eq_false (by omega)
  by_cases g8 : ks.length ≠ 0
  · have g8' : decide (0 < ks.length) = true := decide_eq_true (by omega)
    rw [checkV_head (show headErr _ _ _ _ _ _ _ = 9 by unfold headErr; rw [if_neg (by omega), if_neg (by omega), if_neg (by omega), if_pos (by omega)]) (by decide)]
    clear hS hL hk5 ih
    go_enter Tryd.func41, Tryd.ntmps41
    go_wp2_with fail
    repeat (go_quiet (fail); go_wp2_with fail)
    go_ret
    exact ⟨rfl, (by first | exact HB0.out _ | exact below_drewN (HB0.out _) _)⟩
  have g8' : decide (0 < ks.length) = false := decide_eq_false (by omega)
  obtain rfl : l = [] := List.length_eq_zero_iff.1 (by omega)
  have hE : headErr deep k i s.length ([] : List (VT n)).length ks.length (risingK ks) = 0 := headErr_zero (by omega) (by omega) (by simp only [List.length_nil] at *; omega) (by simp only [List.length_nil] at *; omega) (fun h => by have := h.1; omega)
  rw [checkV_good hE, show firstE (([] : List (VT n)).map (checkV n (deep + 1))) = 0 from rfl]
  clear hE
  simp only [List.length_nil] at *
  have z1 : w.heap.size < (w.alloc (.cells #[.int .i64 k, .int .i64 i, .string X, .slice a 0 c, .slice b ks.length e] 26)).heap.size := by simp
  have K1 := Blk.new w 26 #[.int .i64 k, .int .i64 i, .string X, .slice a 0 c, .slice b ks.length e]
  have hBW := HB0.out (.cells #[.int .i64 k, .int .i64 i, .string X, .slice a 0 c, .slice b ks.length e] 26)
  clear hS hL hk5 ih
  go_enter Tryd.func41, Tryd.ntmps41
  go_wp2_with fail
  repeat (go_quiet (fail); go_wp2_with fail)
  generalize w.alloc (.cells #[.int .i64 k, .int .i64 i, .string X, .slice a 0 c, .slice b ks.length e] 26) = W at K1 hBW z1 ⊢
  have p3 := K1.cell 3
  simp at p3
  go_loopw [7] (fun i wr => ∃ j : Nat, i = .int .i64 (j : Int) ∧ j ≤ 0 ∧ wr = W) (fun i _ => 0)
  case atStart => exact ⟨0, rfl, Nat.le_refl _, rfl⟩
  case round =>
    obtain ⟨j, rfl, hj, rfl⟩ := hrel
    obtain rfl : j = 0 := by omega
    go_wp2_with fail
    go_ret
    exact ⟨rfl, hBW⟩

set_option maxHeartbeats 8000000 in
set_option maxRecDepth 100000 in
theorem check_kX {n : Nat} (U : World → Nat → Prop) (hU : ∀ w w' b, Below w.heap.size w w' → b < w.heap.size → U w b → U w' b) (k : Int) (h0 : k < 0) (i : Int) (s : List UInt8) (l : List (VT n)) (ks : List (List UInt8)) (a b : Option Addr) (c e deep : Nat) (w : World) (hd : deep ≤ 16)
    (hS : StrsAt U w b ks) (hL : ValsAt U w (IsV U w n) a l) (hz2 : l.length * 80 ≤ 140737488351232) (hz3 : ks.length * 16 ≤ 140737488351232) (hk5 : ∀ k ∈ ks, k.length ≤ 140737488351232)
    (ih : ∀ (v : Value) (x : VT n) (w : World), x ∈ l → IsV U w n v x → deep + 1 ≤ 16 → Calls Tryd.prog 41 #[v, .int .i64 ((deep : Int) + 1)] w fun e w' => e = .returned (.int .i64 (checkV n (deep + 1) x)) ∧ Below w.heap.size w w') :
    Calls Tryd.prog 41 #[valV k i ⟨s.toArray⟩ a l.length c b ks.length e, .int .i64 (deep : Int)] w fun e w' => e = .returned (.int .i64 (checkV (n + 1) deep (⟨k, i, s, l, ks⟩ : VN (VT n)))) ∧ Below w.heap.size w w' := by
  have hB0 : ∀ o1, Below w.heap.size w (w.alloc o1) := fun o1 => (Below.refl _ _).alloc (Nat.le_refl _) _
  have HB0 := hide hB0
  clear hB0
  have hxs : ((⟨s.toArray⟩ : ByteArray).size : Int) = (s.length : Int) := by rw [mkSize]
  have hxe : (⟨s.toArray⟩ : ByteArray).toList.isEmpty = decide (s.length = 0) := by rw [ByteArray.toList_eq]; cases s <;> simp
  obtain ⟨X, hX⟩ : ∃ x : ByteArray, (⟨s.toArray⟩ : ByteArray) = x := ⟨_, rfl⟩
  rw [hX] at hxs hxe ⊢
  have HXS := hide hxs; have HXE := hide hxe
  clear hX hxs hxe
  have e5 : (k == 5) = false := by rw [beq_eq_false_iff_ne]; omega
  have e6 : (k == 6) = false := by rw [beq_eq_false_iff_ne]; omega
  have e4 : (k == 4) = false := by rw [beq_eq_false_iff_ne]; omega
  have n3 : (k != 3) = true := by rw [bne_iff_ne]; omega
  have n6 : (k != 6) = true := by rw [bne_iff_ne]; omega
  have l0 : decide (k < 0) = true := decide_eq_true (by omega)
  have l11 : decide (11 < k) = false := decide_eq_false (by omega)
  have l7 : decide (7 ≤ k) = false := decide_eq_false (by omega)
  by_cases g2 : 4096 < s.length
  · have g2' : decide ((4096 : Int) < (X.size : Int)) = true := by rw [HXS.out]; exact decide_eq_true (by omega)
    rw [checkV_head (show headErr _ _ _ _ _ _ _ = 5 by unfold headErr; rw [if_neg (by omega), if_pos g2]) (by decide)]
    clear hS hL hk5 ih
    go_enter Tryd.func41, Tryd.ntmps41
    go_wp2_with fail
    repeat (go_quiet (fail); go_wp2_with fail)
    go_ret
    exact ⟨rfl, (by first | exact HB0.out _ | exact below_drewN (HB0.out _) _)⟩
  have g2' : decide ((4096 : Int) < (X.size : Int)) = false := by rw [HXS.out]; exact decide_eq_false (by omega)
  by_cases g3 : 1024 < l.length
  · have g3' : decide ((1024 : Int) < (l.length : Int)) = true := decide_eq_true (by omega)
    rw [checkV_head (show headErr _ _ _ _ _ _ _ = 3 by unfold headErr; rw [if_neg (by omega), if_neg (by omega), if_pos (.inl g3)]) (by decide)]
    clear hS hL hk5 ih
    go_enter Tryd.func41, Tryd.ntmps41
    go_wp2_with fail
    repeat (go_quiet (fail); go_wp2_with fail)
    go_ret
    exact ⟨rfl, (by first | exact HB0.out _ | exact below_drewN (HB0.out _) _)⟩
  have g3' : decide ((1024 : Int) < (l.length : Int)) = false := decide_eq_false (by omega)
  by_cases g4 : 1024 < ks.length
  · have g4' : decide ((1024 : Int) < (ks.length : Int)) = true := decide_eq_true (by omega)
    rw [checkV_head (show headErr _ _ _ _ _ _ _ = 3 by unfold headErr; rw [if_neg (by omega), if_neg (by omega), if_pos (.inr g4)]) (by decide)]
    clear hS hL hk5 ih
    go_enter Tryd.func41, Tryd.ntmps41
    go_wp2_with fail
    repeat (go_quiet (fail); go_wp2_with fail)
    go_ret
    exact ⟨rfl, (by first | exact HB0.out _ | exact below_drewN (HB0.out _) _)⟩
  have g4' : decide ((1024 : Int) < (ks.length : Int)) = false := decide_eq_false (by omega)
  rw [checkV_head (show headErr _ _ _ _ _ _ _ = 9 by unfold headErr; rw [if_neg (by omega), if_neg (by omega), if_neg (by omega), if_pos (by omega)]) (by decide)]
  clear hS hL hk5 ih
  go_enter Tryd.func41, Tryd.ntmps41
  go_wp2_with fail
  repeat (go_quiet (fail); go_wp2_with fail)
  go_ret
  exact ⟨rfl, (by first | exact HB0.out _ | exact below_drewN (HB0.out _) _)⟩

set_option maxHeartbeats 8000000 in
set_option maxRecDepth 100000 in
theorem check_kY {n : Nat} (U : World → Nat → Prop) (hU : ∀ w w' b, Below w.heap.size w w' → b < w.heap.size → U w b → U w' b) (k : Int) (h12 : 12 ≤ k) (i : Int) (s : List UInt8) (l : List (VT n)) (ks : List (List UInt8)) (a b : Option Addr) (c e deep : Nat) (w : World) (hd : deep ≤ 16)
    (hS : StrsAt U w b ks) (hL : ValsAt U w (IsV U w n) a l) (hz2 : l.length * 80 ≤ 140737488351232) (hz3 : ks.length * 16 ≤ 140737488351232) (hk5 : ∀ k ∈ ks, k.length ≤ 140737488351232)
    (ih : ∀ (v : Value) (x : VT n) (w : World), x ∈ l → IsV U w n v x → deep + 1 ≤ 16 → Calls Tryd.prog 41 #[v, .int .i64 ((deep : Int) + 1)] w fun e w' => e = .returned (.int .i64 (checkV n (deep + 1) x)) ∧ Below w.heap.size w w') :
    Calls Tryd.prog 41 #[valV k i ⟨s.toArray⟩ a l.length c b ks.length e, .int .i64 (deep : Int)] w fun e w' => e = .returned (.int .i64 (checkV (n + 1) deep (⟨k, i, s, l, ks⟩ : VN (VT n)))) ∧ Below w.heap.size w w' := by
  have hB0 : ∀ o1, Below w.heap.size w (w.alloc o1) := fun o1 => (Below.refl _ _).alloc (Nat.le_refl _) _
  have HB0 := hide hB0
  clear hB0
  have hxs : ((⟨s.toArray⟩ : ByteArray).size : Int) = (s.length : Int) := by rw [mkSize]
  have hxe : (⟨s.toArray⟩ : ByteArray).toList.isEmpty = decide (s.length = 0) := by rw [ByteArray.toList_eq]; cases s <;> simp
  obtain ⟨X, hX⟩ : ∃ x : ByteArray, (⟨s.toArray⟩ : ByteArray) = x := ⟨_, rfl⟩
  rw [hX] at hxs hxe ⊢
  have HXS := hide hxs; have HXE := hide hxe
  clear hX hxs hxe
  have e5 : (k == 5) = false := by rw [beq_eq_false_iff_ne]; omega
  have e6 : (k == 6) = false := by rw [beq_eq_false_iff_ne]; omega
  have e4 : (k == 4) = false := by rw [beq_eq_false_iff_ne]; omega
  have n3 : (k != 3) = true := by rw [bne_iff_ne]; omega
  have n6 : (k != 6) = true := by rw [bne_iff_ne]; omega
  have l0 : decide (k < 0) = false := decide_eq_false (by omega)
  have l11 : decide (11 < k) = true := decide_eq_true (by omega)
  have l7 : decide (7 ≤ k) = true := decide_eq_true (by omega)
  by_cases g2 : 4096 < s.length
  · have g2' : decide ((4096 : Int) < (X.size : Int)) = true := by rw [HXS.out]; exact decide_eq_true (by omega)
    rw [checkV_head (show headErr _ _ _ _ _ _ _ = 5 by unfold headErr; rw [if_neg (by omega), if_pos g2]) (by decide)]
    clear hS hL hk5 ih
    go_enter Tryd.func41, Tryd.ntmps41
    go_wp2_with fail
    repeat (go_quiet (fail); go_wp2_with fail)
    go_ret
    exact ⟨rfl, (by first | exact HB0.out _ | exact below_drewN (HB0.out _) _)⟩
  have g2' : decide ((4096 : Int) < (X.size : Int)) = false := by rw [HXS.out]; exact decide_eq_false (by omega)
  by_cases g3 : 1024 < l.length
  · have g3' : decide ((1024 : Int) < (l.length : Int)) = true := decide_eq_true (by omega)
    rw [checkV_head (show headErr _ _ _ _ _ _ _ = 3 by unfold headErr; rw [if_neg (by omega), if_neg (by omega), if_pos (.inl g3)]) (by decide)]
    clear hS hL hk5 ih
    go_enter Tryd.func41, Tryd.ntmps41
    go_wp2_with fail
    repeat (go_quiet (fail); go_wp2_with fail)
    go_ret
    exact ⟨rfl, (by first | exact HB0.out _ | exact below_drewN (HB0.out _) _)⟩
  have g3' : decide ((1024 : Int) < (l.length : Int)) = false := decide_eq_false (by omega)
  by_cases g4 : 1024 < ks.length
  · have g4' : decide ((1024 : Int) < (ks.length : Int)) = true := decide_eq_true (by omega)
    rw [checkV_head (show headErr _ _ _ _ _ _ _ = 3 by unfold headErr; rw [if_neg (by omega), if_neg (by omega), if_pos (.inr g4)]) (by decide)]
    clear hS hL hk5 ih
    go_enter Tryd.func41, Tryd.ntmps41
    go_wp2_with fail
    repeat (go_quiet (fail); go_wp2_with fail)
    go_ret
    exact ⟨rfl, (by first | exact HB0.out _ | exact below_drewN (HB0.out _) _)⟩
  have g4' : decide ((1024 : Int) < (ks.length : Int)) = false := decide_eq_false (by omega)
  rw [checkV_head (show headErr _ _ _ _ _ _ _ = 9 by unfold headErr; rw [if_neg (by omega), if_neg (by omega), if_neg (by omega), if_pos (by omega)]) (by decide)]
  clear hS hL hk5 ih
  go_enter Tryd.func41, Tryd.ntmps41
  go_wp2_with fail
  repeat (go_quiet (fail); go_wp2_with fail)
  go_ret
  exact ⟨rfl, (by first | exact HB0.out _ | exact below_drewN (HB0.out _) _)⟩

end Go.Proofs.YtdnmgpidfjkiaaaDoor
