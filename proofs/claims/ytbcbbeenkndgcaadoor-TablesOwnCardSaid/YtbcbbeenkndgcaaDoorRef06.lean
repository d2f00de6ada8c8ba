/-
  tables.Elements, muslinref06.Elements, Element, Attribute, Void.
-/
import Derived.Test.YtbcbbeenkndgcaaDoorTxt
import Derived.Test.YtbcbbeenkndgcaaDoorElem
namespace Go.Proofs.YtbcbbeenkndgcaaDoor
open Go.RowKit
set_option linter.unusedVariables false
set_option linter.unusedSimpArgs false

def elems : List ByteArray := [⟨#[116, 105, 116, 108, 101]⟩, ⟨#[116, 101, 120, 116, 97, 114, 101, 97]⟩, ⟨#[115, 116, 121, 108, 101]⟩, ⟨#[115, 99, 114, 105, 112, 116]⟩, ⟨#[112, 108, 97, 105, 110, 116, 101, 120, 116]⟩, ⟨#[120, 109, 112]⟩, ⟨#[105, 102, 114, 97, 109, 101]⟩, ⟨#[110, 111, 101, 109, 98, 101, 100]⟩, ⟨#[110, 111, 102, 114, 97, 109, 101, 115]⟩, ⟨#[110, 111, 115, 99, 114, 105, 112, 116]⟩]
def urlsL : List ByteArray := [⟨#[104, 114, 101, 102]⟩, ⟨#[115, 114, 99]⟩, ⟨#[97, 99, 116, 105, 111, 110]⟩, ⟨#[102, 111, 114, 109, 97, 99, 116, 105, 111, 110]⟩, ⟨#[99, 105, 116, 101]⟩, ⟨#[112, 111, 115, 116, 101, 114]⟩, ⟨#[98, 97, 99, 107, 103, 114, 111, 117, 110, 100]⟩, ⟨#[108, 111, 110, 103, 100, 101, 115, 99]⟩, ⟨#[109, 97, 110, 105, 102, 101, 115, 116]⟩, ⟨#[105, 99, 111, 110]⟩]
def barsL : List ByteArray := [⟨#[115, 114, 99, 100, 111, 99]⟩, ⟨#[115, 114, 99, 115, 101, 116]⟩, ⟨#[104, 116, 116, 112, 45, 101, 113, 117, 105, 118]⟩, ⟨#[112, 105, 110, 103]⟩]

set_option maxHeartbeats 400000 in
theorem elements_any (w : World) : Calls Tryd.prog 44 #[] w fun e w' => e = .returned (.slice (some ⟨w.heap.size, 0, none⟩) 10 10) ∧ w' = w.alloc (.cells (elems.map Value.string).toArray 9) := by
  go_enter Tryd.func44, Tryd.ntmps44
  go_wp2
  go_ret
  exact ⟨rfl, rfl⟩
set_option maxHeartbeats 400000 in
theorem refElements_any (w : World) : Calls Tryd.prog 45 #[] w fun e w' => e = .returned (.slice (some ⟨w.heap.size, 0, none⟩) 10 10) ∧ w' = w.alloc (.cells (elems.map Value.string).toArray 9) := by
  go_enter Tryd.func45, Tryd.ntmps45
  go_wp2
  go_ret
  exact ⟨rfl, rfl⟩

theorem elems_case {k : Nat} {c : ByteArray} (h : elems[k]? = some c) : (k = 0 ∧ c = ⟨#[116, 105, 116, 108, 101]⟩) ∨ (k = 1 ∧ c = ⟨#[116, 101, 120, 116, 97, 114, 101, 97]⟩) ∨ (k = 2 ∧ c = ⟨#[115, 116, 121, 108, 101]⟩) ∨ (k = 3 ∧ c = ⟨#[115, 99, 114, 105, 112, 116]⟩) ∨ (k = 4 ∧ c = ⟨#[112, 108, 97, 105, 110, 116, 101, 120, 116]⟩) ∨ (k = 5 ∧ c = ⟨#[120, 109, 112]⟩) ∨ (k = 6 ∧ c = ⟨#[105, 102, 114, 97, 109, 101]⟩) ∨ (k = 7 ∧ c = ⟨#[110, 111, 101, 109, 98, 101, 100]⟩) ∨ (k = 8 ∧ c = ⟨#[110, 111, 102, 114, 97, 109, 101, 115]⟩) ∨ (k = 9 ∧ c = ⟨#[110, 111, 115, 99, 114, 105, 112, 116]⟩) := by
  have hk : k < 10 := (List.getElem?_eq_some_iff.1 h).1
  have hk2 : k = 0 ∨ k = 1 ∨ k = 2 ∨ k = 3 ∨ k = 4 ∨ k = 5 ∨ k = 6 ∨ k = 7 ∨ k = 8 ∨ k = 9 := by omega
  rcases hk2 with rfl | rfl | rfl | rfl | rfl | rfl | rfl | rfl | rfl | rfl
  all_goals
    cases h
    simp
theorem elemK_found {k : Nat} {c s : ByteArray} (h : elems[k]? = some c) (hs : (c.toList == s.toList) = true) : elemK s.data.toList = if k < 2 then 1 else if k < 4 then (k : Int) else 4 := by
  have e : s.data.toList = c.data.toList := by
    rw [← ByteArray.toList_eq, ← ByteArray.toList_eq]
    exact (beq_iff_eq.1 hs).symm
  rw [e]
  rcases elems_case h with ⟨rfl, rfl⟩ | ⟨rfl, rfl⟩ | ⟨rfl, rfl⟩ | ⟨rfl, rfl⟩ | ⟨rfl, rfl⟩ | ⟨rfl, rfl⟩ | ⟨rfl, rfl⟩ | ⟨rfl, rfl⟩ | ⟨rfl, rfl⟩ | ⟨rfl, rfl⟩
  all_goals rfl
theorem beq_false_of {a : List UInt8} {s : ByteArray} (h : ((ByteArray.mk a.toArray).toList == s.toList) = false) : (s.data.toList == a) = false := by
  rw [ByteArray.toList_eq, ByteArray.toList_eq] at h
  simp only [beq_eq_false_iff_ne, ne_eq] at h ⊢
  exact fun e => h e.symm
theorem elemK_none {s : ByteArray} (h : NoneToG (fun v : ByteArray => v.toList == s.toList) elems 10) : elemK s.data.toList = 0 := by
  have f0 := beq_false_of (a := [116, 105, 116, 108, 101]) (h 0 ⟨#[116, 105, 116, 108, 101]⟩ (by omega) rfl)
  have f1 := beq_false_of (a := [116, 101, 120, 116, 97, 114, 101, 97]) (h 1 ⟨#[116, 101, 120, 116, 97, 114, 101, 97]⟩ (by omega) rfl)
  have f2 := beq_false_of (a := [115, 116, 121, 108, 101]) (h 2 ⟨#[115, 116, 121, 108, 101]⟩ (by omega) rfl)
  have f3 := beq_false_of (a := [115, 99, 114, 105, 112, 116]) (h 3 ⟨#[115, 99, 114, 105, 112, 116]⟩ (by omega) rfl)
  have f4 := beq_false_of (a := [112, 108, 97, 105, 110, 116, 101, 120, 116]) (h 4 ⟨#[112, 108, 97, 105, 110, 116, 101, 120, 116]⟩ (by omega) rfl)
  have f5 := beq_false_of (a := [120, 109, 112]) (h 5 ⟨#[120, 109, 112]⟩ (by omega) rfl)
  have f6 := beq_false_of (a := [105, 102, 114, 97, 109, 101]) (h 6 ⟨#[105, 102, 114, 97, 109, 101]⟩ (by omega) rfl)
  have f7 := beq_false_of (a := [110, 111, 101, 109, 98, 101, 100]) (h 7 ⟨#[110, 111, 101, 109, 98, 101, 100]⟩ (by omega) rfl)
  have f8 := beq_false_of (a := [110, 111, 102, 114, 97, 109, 101, 115]) (h 8 ⟨#[110, 111, 102, 114, 97, 109, 101, 115]⟩ (by omega) rfl)
  have f9 := beq_false_of (a := [110, 111, 115, 99, 114, 105, 112, 116]) (h 9 ⟨#[110, 111, 115, 99, 114, 105, 112, 116]⟩ (by omega) rfl)
  unfold elemK
  simp only [f0, f1, f2, f3, f4, f5, f6, f7, f8, f9, Bool.false_eq_true, if_false]

set_option maxHeartbeats 1000000 in
set_option maxRecDepth 100000 in
theorem refElement_any (s : ByteArray) (w : World) : Calls Tryd.prog 39 #[.string s] w fun e w' => e = .returned (.int .i64 (elemK s.data.toList)) ∧ Below w.heap.size w w' := by
  go_enter Tryd.func39, Tryd.ntmps39
  go_wp2_with fail
  refine (refElements_any _).mono ?_
  rintro e w1 ⟨rfl, rfl⟩
  have HR := hide (TxtRow.blk (Blk.new w 9 (elems.map Value.string).toArray))
  have HB : Below w.heap.size w (w.alloc (.cells (elems.map Value.string).toArray 9)) := (Below.refl _ _).alloc (Nat.le_refl _) _
  obtain ⟨W, hW⟩ : ∃ W, w.alloc (.cells (elems.map Value.string).toArray 9) = W := ⟨_, rfl⟩
  rw [hW] at HR HB ⊢
  clear hW
  go_wp2_with fail
  go_loop [4] (fun i => ∃ k : Nat, i = .int .i64 (k : Int) ∧ k ≤ 10 ∧ Hid (NoneToG (fun v : ByteArray => v.toList == s.toList) elems k)) (fun i => 10 - (intOf i).toNat)
  case atStart => exact ⟨0, rfl, Nat.zero_le _, fun j c hj _ => by omega⟩
  case round =>
    obtain ⟨k, rfl, hk, hrel⟩ := hrel
    by_cases hlt : k < 10
    · obtain ⟨c, hc⟩ : ∃ c, elems[k]? = some c := ⟨_, List.getElem?_eq_getElem hlt⟩
      have q0 := HR.out k c hc
      rcases Bool.eq_false_or_eq_true (c.toList == s.toList) with hpc | hpc
      · have HF := hide (elemK_found hc hpc)
        clear hc
        by_cases g1 : k < 2
        · have HG := hide (show (1 : Int) = elemK s.data.toList by rw [HF.out, if_pos g1])
          have g2 : (k : Int) < 2 := by omega
          clear g1
          go_wp2
          go_ret
          exact ⟨ret_int HG.out, HB⟩
        · have g3 : decide ((k : Int) < 2) = false := by simp; omega
          have g4 : (2 : Int) ≤ (k : Int) := by omega
          by_cases g2 : k < 4
          · have HG := hide (show (k : Int) = elemK s.data.toList by rw [HF.out, if_neg g1, if_pos g2])
            have g5 : (k : Int) < 4 := by omega
            clear g1 g2
            go_wp2
            go_ret
            exact ⟨ret_int HG.out, HB⟩
          · have HG := hide (show (4 : Int) = elemK s.data.toList by rw [HF.out, if_neg g1, if_neg g2])
            have g5 : decide ((k : Int) < 4) = false := by simp; omega
            have g6 : (4 : Int) ≤ (k : Int) := by omega
            clear g1 g2
            go_wp2
            go_ret
            exact ⟨ret_int HG.out, HB⟩
      · have HF := hide (hrel.out.next hc hpc)
        clear hc
        go_wp2
        go_round
        case rel => exact ⟨k + 1, by go_num, by omega, HF⟩
        case measure => simp [intOf]; omega
    · have hk10 : k = 10 := by omega
      subst hk10
      have HG := hide (show (0 : Int) = elemK s.data.toList from (elemK_none hrel.out).symm)
      go_wp2
      go_ret
      exact ⟨ret_int HG.out, HB⟩

set_option maxHeartbeats 1000000 in
set_option maxRecDepth 100000 in
theorem refVoid_any (s : ByteArray) (w : World) : Calls Tryd.prog 42 #[.string s] w fun e w' => e = .returned (.bool (voids.any fun v => v.toList == s.toList)) ∧ Below w.heap.size w w' := by
  have HR := hide (TxtRow.blk (Blk.new w 9 (voids.map Value.string).toArray))
  have cO := hide (one_any voids s w.heap.size 14 14 _ HR.out rfl (by omega))
  obtain ⟨b, hb⟩ : ∃ b, (voids.any fun v => v.toList == s.toList) = b := ⟨_, rfl⟩
  rw [hb] at cO ⊢
  clear hb
  go_enter Tryd.func42, Tryd.ntmps42
  go_wp2_with (go_at_call 74; refine (cO.out).mono ?_; rintro e w2 ⟨rfl, rfl⟩)
  go_ret
  exact ⟨rfl, (Below.refl _ _).alloc (Nat.le_refl _) _⟩

def refAttrK (b1 b2 b3 b4 b5 b6 b7 b8 : Bool) : Int := if b1 || (b2 && b3) then 1 else if b4 then 2 else if b5 then 3 else if b6 || (b7 || b8) then 4 else 0
set_option maxHeartbeats 2000000 in
set_option maxRecDepth 100000 in
theorem refAttr_gen (e a : ByteArray) (b1 b7 : Bool) (h1 : (urlsL.any fun v => v.toList == a.toList) = b1) (h7 : (barsL.any fun v => v.toList == a.toList) = b7) (w : World) :
    Calls Tryd.prog 40 #[.string e, .string a] w fun r w' => r = .returned (.int .i64 (refAttrK b1 (a.toList == [100, 97, 116, 97]) (e.toList == [111, 98, 106, 101, 99, 116]) (Lib.hasPrefix a.data.toList [111, 110]) (a.toList == [115, 116, 121, 108, 101]) a.toList.isEmpty b7 (Lib.hasPrefix a.data.toList [120, 109, 108, 110, 115]))) ∧ Below w.heap.size w w' := by
  have cO := hide (fun (W : World) (r : Nat) (hr : r = W.heap.size) => show Calls Tryd.prog 74 #[.slice (some ⟨r, 0, none⟩) 10 10, .string a] (W.alloc (.cells (urlsL.map Value.string).toArray 9)) _ by subst hr; exact one_any urlsL a W.heap.size 10 10 _ (TxtRow.blk (Blk.new W 9 (urlsL.map Value.string).toArray)) rfl (by omega))
  have cB := hide (fun (W : World) (r : Nat) (hr : r = W.heap.size) => show Calls Tryd.prog 74 #[.slice (some ⟨r, 0, none⟩) 4 4, .string a] (W.alloc (.cells (barsL.map Value.string).toArray 9)) _ by subst hr; exact one_any barsL a W.heap.size 4 4 _ (TxtRow.blk (Blk.new W 9 (barsL.map Value.string).toArray)) rfl (by omega))
  have cP := hide (fun w => refBegins_any ⟨#[111, 110]⟩ a w)
  have cQ := hide (fun w => refBegins_any ⟨#[120, 109, 108, 110, 115]⟩ a w)
  rw [h1] at cO
  rw [h7] at cB
  rw [show (ByteArray.mk #[111, 110]).data.toList = [111, 110] from rfl] at cP
  rw [show (ByteArray.mk #[120, 109, 108, 110, 115]).data.toList = [120, 109, 108, 110, 115] from rfl] at cQ
  generalize Lib.hasPrefix a.data.toList [111, 110] = b4 at cP ⊢
  generalize Lib.hasPrefix a.data.toList [120, 109, 108, 110, 115] = b8 at cQ ⊢
  obtain ⟨l, hl⟩ : ∃ l, a.toList = l := ⟨_, rfl⟩
  obtain ⟨m, hm⟩ : ∃ m, e.toList = m := ⟨_, rfl⟩
  rw [hl, hm]
  clear h1 h7
  go_enter Tryd.func40, Tryd.ntmps40
  go_wp2_with fail
  refine (cO.out _ _ (by simp)).mono ?_
  rintro e w2 ⟨rfl, rfl⟩
  cases b1
  rotate_left
  · go_wp2_with fail
    go_ret
    exact ⟨ret_int (by simp [refAttrK]), (Below.refl _ _).alloc (Nat.le_refl _) _⟩
  rcases Bool.eq_false_or_eq_true (l == [100, 97, 116, 97]) with g2 | g2
  · rcases Bool.eq_false_or_eq_true (m == [111, 98, 106, 101, 99, 116]) with g3 | g3
    · go_wp2_with fail
      go_ret
      exact ⟨ret_int (by simp [refAttrK, g2, g3]), (Below.refl _ _).alloc (Nat.le_refl _) _⟩
    go_wp2_with fail
    refine (cP.out _).mono ?_
    rintro e w2 ⟨rfl, rfl⟩
    cases b4
    rotate_left
    · go_wp2_with fail
      go_ret
      exact ⟨ret_int (by simp [refAttrK, g2, g3]), (Below.refl _ _).alloc (Nat.le_refl _) _⟩
    rcases Bool.eq_false_or_eq_true (l == [115, 116, 121, 108, 101]) with g5 | g5
    · go_wp2_with fail
      go_ret
      exact ⟨ret_int (by simp [refAttrK, g2, g3, g5]), (Below.refl _ _).alloc (Nat.le_refl _) _⟩
    rcases Bool.eq_false_or_eq_true l.isEmpty with g6 | g6
    · go_wp2_with fail
      go_ret
      exact ⟨ret_int (by simp [refAttrK, g2, g3, g5, g6]), (Below.refl _ _).alloc (Nat.le_refl _) _⟩
    go_wp2_with fail
    refine (cB.out _ _ (by simp)).mono ?_
    rintro e w2 ⟨rfl, rfl⟩
    cases b7
    rotate_left
    · go_wp2_with fail
      go_ret
      exact ⟨ret_int (by simp [refAttrK, g2, g3, g5, g6]), ((Below.refl _ _).alloc (Nat.le_refl _) _).alloc (by simp) _⟩
    go_wp2_with fail
    refine (cQ.out _).mono ?_
    rintro e w2 ⟨rfl, rfl⟩
    cases b8
    · go_wp2_with fail
      go_ret
      exact ⟨ret_int (by simp [refAttrK, g2, g3, g5, g6]), ((Below.refl _ _).alloc (Nat.le_refl _) _).alloc (by simp) _⟩
    · go_wp2_with fail
      go_ret
      exact ⟨ret_int (by simp [refAttrK, g2, g3, g5, g6]), ((Below.refl _ _).alloc (Nat.le_refl _) _).alloc (by simp) _⟩
  go_wp2_with fail
  refine (cP.out _).mono ?_
  rintro e w2 ⟨rfl, rfl⟩
  cases b4
  rotate_left
  · go_wp2_with fail
    go_ret
    exact ⟨ret_int (by simp [refAttrK, g2]), (Below.refl _ _).alloc (Nat.le_refl _) _⟩
  rcases Bool.eq_false_or_eq_true (l == [115, 116, 121, 108, 101]) with g5 | g5
  · go_wp2_with fail
    go_ret
    exact ⟨ret_int (by simp [refAttrK, g2, g5]), (Below.refl _ _).alloc (Nat.le_refl _) _⟩
  rcases Bool.eq_false_or_eq_true l.isEmpty with g6 | g6
  · go_wp2_with fail
    go_ret
    exact ⟨ret_int (by simp [refAttrK, g2, g5, g6]), (Below.refl _ _).alloc (Nat.le_refl _) _⟩
  go_wp2_with fail
  refine (cB.out _ _ (by simp)).mono ?_
  rintro e w2 ⟨rfl, rfl⟩
  cases b7
  rotate_left
  · go_wp2_with fail
    go_ret
    exact ⟨ret_int (by simp [refAttrK, g2, g5, g6]), ((Below.refl _ _).alloc (Nat.le_refl _) _).alloc (by simp) _⟩
  go_wp2_with fail
  refine (cQ.out _).mono ?_
  rintro e w2 ⟨rfl, rfl⟩
  cases b8
  · go_wp2_with fail
    go_ret
    exact ⟨ret_int (by simp [refAttrK, g2, g5, g6]), ((Below.refl _ _).alloc (Nat.le_refl _) _).alloc (by simp) _⟩
  · go_wp2_with fail
    go_ret
    exact ⟨ret_int (by simp [refAttrK, g2, g5, g6]), ((Below.refl _ _).alloc (Nat.le_refl _) _).alloc (by simp) _⟩
end Go.Proofs.YtbcbbeenkndgcaaDoor
