/-
  PLAIN LAW: the document's kind of an attribute is the program's. TablesTells, TablesOwn: THE WALKS.
-/
import Derived.Test.YtbcbbeenkndgcaaDoorRef06
import Derived.Test.YtbcbbeenkndgcaaDoorLaw11
namespace Go.Proofs.YtbcbbeenkndgcaaDoor
open Go.RowKit
set_option linter.unusedVariables false
set_option linter.unusedSimpArgs false

theorem urls_any (a : ByteArray) : (urlsL.any fun v => v.toList == a.toList) = isOneOf a.data.toList urlAttrs := by
  rw [ByteArray.toList_eq a]
  generalize a.data.toList = l
  have c : ∀ x : List UInt8, (x == l) = (l == x) := fun x => BEq.comm
  simp only [urlsL, urlAttrs, isOneOf, List.any_cons, List.any_nil, ByteArray.toList_eq, c]
theorem bars_any (a : ByteArray) : ((barsL.any fun v => v.toList == a.toList) || a.toList.isEmpty) = isOneOf a.data.toList barredAttrs := by
  rw [ByteArray.toList_eq a]
  generalize a.data.toList = l
  have c : ∀ x : List UInt8, (x == l) = (l == x) := fun x => BEq.comm
  simp only [barsL, barredAttrs, isOneOf, List.any_cons, List.any_nil, ByteArray.toList_eq, c]
  cases l <;> simp
theorem refAttrK_eq (e a : ByteArray) :
    refAttrK (urlsL.any fun v => v.toList == a.toList) (a.toList == [100, 97, 116, 97]) (e.toList == [111, 98, 106, 101, 99, 116]) (Lib.hasPrefix a.data.toList [111, 110]) (a.toList == [115, 116, 121, 108, 101]) a.toList.isEmpty (barsL.any fun v => v.toList == a.toList) (Lib.hasPrefix a.data.toList [120, 109, 108, 110, 115])
      = attrK e.data.toList a.data.toList := by
  have hb := bars_any a
  rw [urls_any]
  rw [ByteArray.toList_eq] at hb ⊢
  rw [ByteArray.toList_eq]
  generalize a.data.toList = l at hb ⊢
  generalize e.data.toList = m
  generalize (barsL.any fun v => v.toList == l) = b7 at hb ⊢
  unfold attrK
  cases hu : isOneOf l urlAttrs
  · by_cases h1 : l = [100, 97, 116, 97]
    · subst h1
      cases b7
      · cases hm : (m == [111, 98, 106, 101, 99, 116]) <;> rfl
      · simp [isOneOf, barredAttrs] at hb
    · have f1 : (l == [100, 97, 116, 97]) = false := by simpa using h1
      by_cases h2 : l = [115, 116, 121, 108, 101]
      · subst h2
        simp [refAttrK, Lib.hasPrefix, f1]
      · have f2 : (l == [115, 116, 121, 108, 101]) = false := by simpa using h2
        cases hr : isOneOf l barredAttrs
        · rw [hr] at hb
          have hb1 : b7 = false := by cases b7 <;> simp_all
          have hb2 : l.isEmpty = false := by cases b7 <;> simp_all
          rw [hb1, hb2, f1, f2]
          cases h4 : Lib.hasPrefix l [111, 110] <;> cases h5 : Lib.hasPrefix l [120, 109, 108, 110, 115] <;> simp [refAttrK]
        · rw [hr] at hb
          have hon : Lib.hasPrefix l [111, 110] = false := by
            simp only [isOneOf, barredAttrs, Bool.or_eq_true, beq_iff_eq, Bool.or_false] at hr
            rcases hr with rfl | rfl | rfl | rfl | rfl <;> rfl
          rw [hon, f1, f2]
          have hb3 : (l.isEmpty || (b7 || Lib.hasPrefix l [120, 109, 108, 110, 115])) = true := by
            cases b7 <;> cases hl : l.isEmpty <;> simp_all
          simp only [refAttrK, hb3]
          rfl
  · simp [refAttrK]
theorem refAttr_any (e a : ByteArray) (w : World) : Calls Tryd.prog 40 #[.string e, .string a] w fun r w' => r = .returned (.int .i64 (attrK e.data.toList a.data.toList)) ∧ Below w.heap.size w w' := by
  have h := refAttr_gen e a _ _ rfl rfl w
  rw [refAttrK_eq] at h
  exact h

/-- Both lists of elements hold the same. -/
theorem same2 (w : World) : Calls Tryd.prog 43 #[.slice (some ⟨w.heap.size, 0, none⟩) 10 10, .slice (some ⟨w.heap.size + 1, 0, none⟩) 10 10] ((w.alloc (.cells (elems.map Value.string).toArray 9)).alloc (.cells (elems.map Value.string).toArray 9)) fun e w' => e = .returned (.bool true) ∧ Below w.heap.size w w' := by
  have h1 : Blk ((w.alloc (.cells (elems.map Value.string).toArray 9)).alloc (.cells (elems.map Value.string).toArray 9)) w.heap.size 9 (elems.map Value.string).toArray := (Blk.new _ _ _).alloc _
  have h2 : Blk ((w.alloc (.cells (elems.map Value.string).toArray 9)).alloc (.cells (elems.map Value.string).toArray 9)) (w.heap.size + 1) 9 (elems.map Value.string).toArray := by
    have := Blk.new (w.alloc (.cells (elems.map Value.string).toArray 9)) 9 (elems.map Value.string).toArray
    simpa using this
  refine (same_any elems w.heap.size (w.heap.size + 1) 10 10 10 _ (TxtRow.blk h1) (TxtRow.blk h2) (by simp; omega) (by simp) rfl (by omega)).mono ?_
  rintro e w1 ⟨rfl, hb⟩
  exact ⟨rfl, (((Below.refl _ _).alloc (Nat.le_refl _) _).alloc (by simp) _).trans (hb.mono (by simp; omega))⟩

set_option maxHeartbeats 1000000 in
set_option maxRecDepth 100000 in
theorem tablesTells_walk (a0 : ByteArray) (s0 : a0.size ≤ 140737488351232) (a1 : ByteArray) (s1 : a1.size ≤ 140737488351232) (w : World) (htab : Lib.TabIs Tryd.prog w "strings.asciiSpace" .u8 Lib.asciiSpaceTab) :
    Calls Tryd.prog 11 #[.string a0, .string a1] w fun e w' => e = .returned (.bool true) ∧ Below w.heap.size w w' := by
  have c1 := hide (fun w => element_any a0 w)
  have c2 := hide (fun w => refElement_any a0 w)
  have c3 := hide (fun w => attribute_any a0 a1 w)
  have c4 := hide (fun w => refAttr_any a0 a1 w)
  have c5 := hide (fun w' (hb : Below w.heap.size w w') => void_any a0 w' (tabs_below gSpace htab hb))
  have c6 := hide (fun w => refVoid_any a0 w)
  have c7 := hide (fun w' (hb : Below w.heap.size w w') => alive11 w' (tabs_below gSpace htab hb))
  generalize elemK a0.data.toList = k1 at c1 c2
  generalize attrK a0.data.toList a1.data.toList = k2 at c3 c4
  generalize (voids.any fun v => v.toList == a0.toList) = b at c5 c6
  clear s0 s1 htab
  go_enter Tryd.func11, Tryd.ntmps11
  go_wp2_with fail
  refine (c1.out _).mono ?_
  rintro e w1 ⟨rfl, rfl⟩
  go_wp2_with fail
  refine (c2.out _).mono ?_
  rintro e w1 ⟨rfl, hb1⟩
  go_wp2_with fail
  refine (c3.out _).mono ?_
  rintro e w2 ⟨rfl, rfl⟩
  go_wp2_with fail
  refine (c4.out _).mono ?_
  rintro e w2 ⟨rfl, hb2⟩
  have hb2 := below_step hb1 hb2
  go_wp2_with fail
  refine (c5.out _ hb2).mono ?_
  rintro e w3 ⟨rfl, hb3⟩
  have hb3 := below_step hb2 hb3
  go_wp2_with fail
  refine (c6.out _).mono ?_
  rintro e w4 ⟨rfl, hb4⟩
  have hb4 := below_step hb3 hb4
  clear hb1 hb2 hb3
  go_wp2_with fail
  refine (elements_any _).mono ?_
  rintro e w5 ⟨rfl, rfl⟩
  go_wp2_with fail
  refine (refElements_any _).mono ?_
  rintro e w5 ⟨rfl, rfl⟩
  have cS := hide (same2 w4)
  go_wp2_with (go_at_call 43; refine (cS.out).mono ?_; rintro e w5 ⟨rfl, hb5⟩)
  have hb5 := below_step hb4 hb5
  go_wp2_with (go_at_call 37; refine (c7.out _ hb5).mono ?_; rintro e w6 ⟨rfl, hb6⟩)
  go_ret
  exact ⟨rfl, below_step hb5 hb6⟩
set_option maxHeartbeats 1000000 in
set_option maxRecDepth 100000 in
theorem tablesOwn_walk (a0 : Int) (lo0 : -9223372036854775808 ≤ a0) (hi0 : a0 ≤ 9223372036854775807) (w : World) (htab : Lib.TabIs Tryd.prog w "strings.asciiSpace" .u8 Lib.asciiSpaceTab) :
    Calls Tryd.prog 12 #[.int .i64 a0] w fun e w' => e = .returned (.bool true) ∧ Below w.heap.size w w' := by
  go_enter Tryd.func12, Tryd.ntmps12
  go_wp2_with fail
  refine (alive11 _ htab).mono ?_
  rintro e w1 ⟨rfl, hb1⟩
  go_wp2_with fail
  refine (elements_any _).mono ?_
  rintro e w2 ⟨rfl, rfl⟩
  have hBlk := Blk.new w1 9 (elems.map Value.string).toArray
  have hB : Below w1.heap.size w1 (w1.alloc (.cells (elems.map Value.string).toArray 9)) := (Below.refl _ _).alloc (Nat.le_refl _) _
  obtain ⟨W, hW⟩ : ∃ W, w1.alloc (.cells (elems.map Value.string).toArray 9) = W := ⟨_, rfl⟩
  rw [hW] at hBlk hB ⊢
  clear hW
  have h1 := Int.tmod_lt_of_pos a0 (show (0 : Int) < 10 by omega)
  have h2 := Int.lt_tmod_of_pos a0 (show (0 : Int) < 10 by omega)
  have hw : wrap64 (a0.tmod 10 + 10) = a0.tmod 10 + 10 := by
    unfold wrap64
    omega
  obtain ⟨k, hk, hk10⟩ : ∃ k : Nat, (a0.tmod 10 + 10).tmod 10 = (k : Int) ∧ k < 10 := by
    have h3 := Int.tmod_lt_of_pos (a0.tmod 10 + 10) (show (0 : Int) < 10 by omega)
    have h4 := Int.tmod_nonneg 10 (show 0 ≤ a0.tmod 10 + 10 by omega)
    exact ⟨((a0.tmod 10 + 10).tmod 10).toNat, by omega, by omega⟩
  clear h1 h2
  obtain ⟨c, hc⟩ : ∃ c, elems[k]? = some c := ⟨_, List.getElem?_eq_getElem hk10⟩
  have q0 : W.cell? ⟨w1.heap.size, k, none⟩ = some (.string c) := TxtRow.blk hBlk k c hc
  have y0 := hBlk.frozen k
  have zl := hBlk.lt
  have g1 : (k : Int) < 10 := by omega
  clear hc hBlk
  have hB2 := hB.setCell (p := ⟨w1.heap.size, k, none⟩) (Nat.le_refl _) (.string ⟨#[115, 112, 111, 105, 108, 116]⟩)
  go_wp2_with fail
  obtain ⟨V, hV⟩ : ∃ V, W.setCell ⟨w1.heap.size, k, none⟩ (.string ⟨#[115, 112, 111, 105, 108, 116]⟩) = V := ⟨_, rfl⟩
  rw [hV] at hB2 ⊢
  clear hV q0 y0 zl hB
  refine (elements_any _).mono ?_
  rintro e w2 ⟨rfl, rfl⟩
  go_wp2_with fail
  refine (refElements_any _).mono ?_
  rintro e w5 ⟨rfl, rfl⟩
  have cS := hide (same2 V)
  go_wp2_with (go_at_call 43; refine (cS.out).mono ?_; rintro e w5 ⟨rfl, hb5⟩)
  go_ret
  exact ⟨rfl, hb1.trans ((hB2.trans (hb5.mono hB2.size)).mono hb1.size)⟩
end Go.Proofs.YtbcbbeenkndgcaaDoor
