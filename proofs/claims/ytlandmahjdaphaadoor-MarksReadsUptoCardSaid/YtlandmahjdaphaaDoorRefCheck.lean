/-
  muslinref06.Attribute: the kind of an attribute; muslinref13: Kind, Language, Check at a state that may be.
-/
import Derived.Test.YtlandmahjdaphaaDoorTxt
import Derived.Test.YtlandmahjdaphaaDoorStV
namespace Go.Proofs.YtlandmahjdaphaaDoor
open Go.RowKit
set_option linter.unusedVariables false
set_option linter.unusedSimpArgs false

def urlsL : List ByteArray := [⟨#[104, 114, 101, 102]⟩, ⟨#[115, 114, 99]⟩, ⟨#[97, 99, 116, 105, 111, 110]⟩, ⟨#[102, 111, 114, 109, 97, 99, 116, 105, 111, 110]⟩, ⟨#[99, 105, 116, 101]⟩, ⟨#[112, 111, 115, 116, 101, 114]⟩, ⟨#[98, 97, 99, 107, 103, 114, 111, 117, 110, 100]⟩, ⟨#[108, 111, 110, 103, 100, 101, 115, 99]⟩, ⟨#[109, 97, 110, 105, 102, 101, 115, 116]⟩, ⟨#[105, 99, 111, 110]⟩]
def barsL : List ByteArray := [⟨#[115, 114, 99, 100, 111, 99]⟩, ⟨#[115, 114, 99, 115, 101, 116]⟩, ⟨#[104, 116, 116, 112, 45, 101, 113, 117, 105, 118]⟩, ⟨#[112, 105, 110, 103]⟩]
def refAttrK (b1 b2 b3 b4 b5 b6 b7 b8 : Bool) : Int := if b1 || (b2 && b3) then 1 else if b4 then 2 else if b5 then 3 else if b6 || (b7 || b8) then 4 else 0
set_option maxHeartbeats 2000000 in
set_option maxRecDepth 100000 in
theorem refAttr_gen (e a : ByteArray) (b1 b7 : Bool) (h1 : (urlsL.any fun v => v.toList == a.toList) = b1) (h7 : (barsL.any fun v => v.toList == a.toList) = b7) (w : World) :
    Calls Tryd.prog 84 #[.string e, .string a] w fun r w' => r = .returned (.int .i64 (refAttrK b1 (a.toList == [100, 97, 116, 97]) (e.toList == [111, 98, 106, 101, 99, 116]) (Lib.hasPrefix a.data.toList [111, 110]) (a.toList == [115, 116, 121, 108, 101]) a.toList.isEmpty b7 (Lib.hasPrefix a.data.toList [120, 109, 108, 110, 115]))) ∧ Below w.heap.size w w' := by
  have cO := hide (fun (W : World) (r : Nat) (hr : r = W.heap.size) => show Calls Tryd.prog 111 #[.slice (some ⟨r, 0, none⟩) 10 10, .string a] (W.alloc (.cells (urlsL.map Value.string).toArray 9)) _ by subst hr; exact one_any urlsL a W.heap.size 10 10 _ (TxtRow.blk (Blk.new W 9 (urlsL.map Value.string).toArray)) rfl (by omega))
  have cB := hide (fun (W : World) (r : Nat) (hr : r = W.heap.size) => show Calls Tryd.prog 111 #[.slice (some ⟨r, 0, none⟩) 4 4, .string a] (W.alloc (.cells (barsL.map Value.string).toArray 9)) _ by subst hr; exact one_any barsL a W.heap.size 4 4 _ (TxtRow.blk (Blk.new W 9 (barsL.map Value.string).toArray)) rfl (by omega))
  have cP := hide (fun w => refBegins_any ⟨#[111, 110]⟩ a w)
  have cQ := hide (fun w => refBegins_any ⟨#[120, 109, 108, 110, 115]⟩ a w)
  rw [h1] at cO
  rw [h7] at cB
  rw [show (ByteArray.mk #[111, 110]).data.toList = [111, 110] from rfl] at cP
  rw [show (ByteArray.mk #[120, 109, 108, 110, 115]).data.toList = [120, 109, 108, 110, 115] from rfl] at cQ
  generalize Lib.hasPrefix a.data.toList [111, 110] = b4 at cP ⊢
  generalize Lib.hasPrefix a.data.toList [120, 109, 108, 110, 115] = b8 at cQ ⊢
  obtain ⟨l, hl⟩ : ∃ l, a.toList = l := ⟨_, rfl⟩
  obtain ⟨m, hm⟩ : ∃ m, e.toList = m := ⟨_, rfl⟩
  rw [hl, hm]
  clear h1 h7
  go_enter Tryd.func84, Tryd.ntmps84
  go_wp2_with fail
  refine (cO.out _ _ (by simp)).mono ?_
  rintro e w2 ⟨rfl, rfl⟩
  cases b1
  rotate_left
  · go_wp2_with fail
    go_ret
    exact ⟨ret_int (by simp [refAttrK]), (Below.refl _ _).alloc (Nat.le_refl _) _⟩
  rcases Bool.eq_false_or_eq_true (l == [100, 97, 116, 97]) with g2 | g2
  · rcases Bool.eq_false_or_eq_true (m == [111, 98, 106, 101, 99, 116]) with g3 | g3
    · go_wp2_with fail
      go_ret
      exact ⟨ret_int (by simp [refAttrK, g2, g3]), (Below.refl _ _).alloc (Nat.le_refl _) _⟩
    go_wp2_with fail
    refine (cP.out _).mono ?_
    rintro e w2 ⟨rfl, rfl⟩
    cases b4
    rotate_left
    · go_wp2_with fail
      go_ret
      exact ⟨ret_int (by simp [refAttrK, g2, g3]), (Below.refl _ _).alloc (Nat.le_refl _) _⟩
    rcases Bool.eq_false_or_eq_true (l == [115, 116, 121, 108, 101]) with g5 | g5
    · go_wp2_with fail
      go_ret
      exact ⟨ret_int (by simp [refAttrK, g2, g3, g5]), (Below.refl _ _).alloc (Nat.le_refl _) _⟩
    rcases Bool.eq_false_or_eq_true l.isEmpty with g6 | g6
    · go_wp2_with fail
      go_ret
      exact ⟨ret_int (by simp [refAttrK, g2, g3, g5, g6]), (Below.refl _ _).alloc (Nat.le_refl _) _⟩
    go_wp2_with fail
    refine (cB.out _ _ (by simp)).mono ?_
    rintro e w2 ⟨rfl, rfl⟩
    cases b7
    rotate_left
    · go_wp2_with fail
      go_ret
      exact ⟨ret_int (by simp [refAttrK, g2, g3, g5, g6]), ((Below.refl _ _).alloc (Nat.le_refl _) _).alloc (by simp) _⟩
    go_wp2_with fail
    refine (cQ.out _).mono ?_
    rintro e w2 ⟨rfl, rfl⟩
    cases b8
    · go_wp2_with fail
      go_ret
      exact ⟨ret_int (by simp [refAttrK, g2, g3, g5, g6]), ((Below.refl _ _).alloc (Nat.le_refl _) _).alloc (by simp) _⟩
    · go_wp2_with fail
      go_ret
      exact ⟨ret_int (by simp [refAttrK, g2, g3, g5, g6]), ((Below.refl _ _).alloc (Nat.le_refl _) _).alloc (by simp) _⟩
  go_wp2_with fail
  refine (cP.out _).mono ?_
  rintro e w2 ⟨rfl, rfl⟩
  cases b4
  rotate_left
  · go_wp2_with fail
    go_ret
    exact ⟨ret_int (by simp [refAttrK, g2]), (Below.refl _ _).alloc (Nat.le_refl _) _⟩
  rcases Bool.eq_false_or_eq_true (l == [115, 116, 121, 108, 101]) with g5 | g5
  · go_wp2_with fail
    go_ret
    exact ⟨ret_int (by simp [refAttrK, g2, g5]), (Below.refl _ _).alloc (Nat.le_refl _) _⟩
  rcases Bool.eq_false_or_eq_true l.isEmpty with g6 | g6
  · go_wp2_with fail
    go_ret
    exact ⟨ret_int (by simp [refAttrK, g2, g5, g6]), (Below.refl _ _).alloc (Nat.le_refl _) _⟩
  go_wp2_with fail
  refine (cB.out _ _ (by simp)).mono ?_
  rintro e w2 ⟨rfl, rfl⟩
  cases b7
  rotate_left
  · go_wp2_with fail
    go_ret
    exact ⟨ret_int (by simp [refAttrK, g2, g5, g6]), ((Below.refl _ _).alloc (Nat.le_refl _) _).alloc (by simp) _⟩
  go_wp2_with fail
  refine (cQ.out _).mono ?_
  rintro e w2 ⟨rfl, rfl⟩
  cases b8
  · go_wp2_with fail
    go_ret
    exact ⟨ret_int (by simp [refAttrK, g2, g5, g6]), ((Below.refl _ _).alloc (Nat.le_refl _) _).alloc (by simp) _⟩
  · go_wp2_with fail
    go_ret
    exact ⟨ret_int (by simp [refAttrK, g2, g5, g6]), ((Below.refl _ _).alloc (Nat.le_refl _) _).alloc (by simp) _⟩
theorem urls_any (a : ByteArray) : (urlsL.any fun v => v.toList == a.toList) = isOneOf a.data.toList urlAttrs := by
  rw [ByteArray.toList_eq a]
  generalize a.data.toList = l
  have c : ∀ x : List UInt8, (x == l) = (l == x) := fun x => BEq.comm
  simp only [urlsL, urlAttrs, isOneOf, List.any_cons, List.any_nil, ByteArray.toList_eq, c]
theorem bars_any (a : ByteArray) : ((barsL.any fun v => v.toList == a.toList) || a.toList.isEmpty) = isOneOf a.data.toList barredAttrs := by
  rw [ByteArray.toList_eq a]
  generalize a.data.toList = l
  have c : ∀ x : List UInt8, (x == l) = (l == x) := fun x => BEq.comm
  simp only [barsL, barredAttrs, isOneOf, List.any_cons, List.any_nil, ByteArray.toList_eq, c]
  cases l <;> simp
theorem refAttrK_eq (e a : ByteArray) :
    refAttrK (urlsL.any fun v => v.toList == a.toList) (a.toList == [100, 97, 116, 97]) (e.toList == [111, 98, 106, 101, 99, 116]) (Lib.hasPrefix a.data.toList [111, 110]) (a.toList == [115, 116, 121, 108, 101]) a.toList.isEmpty (barsL.any fun v => v.toList == a.toList) (Lib.hasPrefix a.data.toList [120, 109, 108, 110, 115])
      = attrK e.data.toList a.data.toList := by
  have hb := bars_any a
  rw [urls_any]
  rw [ByteArray.toList_eq] at hb ⊢
  rw [ByteArray.toList_eq]
  generalize a.data.toList = l at hb ⊢
  generalize e.data.toList = m
  generalize (barsL.any fun v => v.toList == l) = b7 at hb ⊢
  unfold attrK
  cases hu : isOneOf l urlAttrs
  · by_cases h1 : l = [100, 97, 116, 97]
    · subst h1
      cases b7
      · cases hm : (m == [111, 98, 106, 101, 99, 116]) <;> rfl
      · simp [isOneOf, barredAttrs] at hb
    · have f1 : (l == [100, 97, 116, 97]) = false := by simpa using h1
      by_cases h2 : l = [115, 116, 121, 108, 101]
      · subst h2
        simp [refAttrK, Lib.hasPrefix, f1]
      · have f2 : (l == [115, 116, 121, 108, 101]) = false := by simpa using h2
        cases hr : isOneOf l barredAttrs
        · rw [hr] at hb
          have hb1 : b7 = false := by cases b7 <;> simp_all
          have hb2 : l.isEmpty = false := by cases b7 <;> simp_all
          rw [hb1, hb2, f1, f2]
          cases h4 : Lib.hasPrefix l [111, 110] <;> cases h5 : Lib.hasPrefix l [120, 109, 108, 110, 115] <;> simp [refAttrK]
        · rw [hr] at hb
          have hon : Lib.hasPrefix l [111, 110] = false := by
            simp only [isOneOf, barredAttrs, Bool.or_eq_true, beq_iff_eq, Bool.or_false] at hr
            rcases hr with rfl | rfl | rfl | rfl | rfl <;> rfl
          rw [hon, f1, f2]
          have hb3 : (l.isEmpty || (b7 || Lib.hasPrefix l [120, 109, 108, 110, 115])) = true := by
            cases b7 <;> cases hl : l.isEmpty <;> simp_all
          simp only [refAttrK, hb3]
          rfl
  · simp [refAttrK]
theorem refAttr_any (e a : ByteArray) (w : World) : Calls Tryd.prog 84 #[.string e, .string a] w fun r w' => r = .returned (.int .i64 (attrK e.data.toList a.data.toList)) ∧ Below w.heap.size w w' := by
  have h := refAttr_gen e a _ _ rfl rfl w
  rw [refAttrK_eq] at h
  exact h

/-! ### The page's own Check -/
theorem orL {a b : Bool} (h : (a || b) = true) (hb : b = false) : a = true := by rw [hb] at h; simpa using h
theorem refBegins_bar (el : ByteArray) (w : World) : Calls Tryd.prog 83 #[.string ⟨#[47]⟩, .string el] w fun e w' => e = .returned (.bool (Lib.hasPrefix el.data.toList [47])) ∧ w = w' := refBegins_any ⟨#[47]⟩ el w
def kdM (el at_ : List UInt8) : Int := if Lib.hasPrefix el [47] then 0 else attrK el at_
set_option maxHeartbeats 1000000 in
set_option maxRecDepth 100000 in
theorem refKind_any (k : Int) (h8 : 8 ≤ k) (h10 : k ≤ 10) (el at_ : ByteArray) (d : Int) (pe re : ByteArray) (pa : Int) (wo : ByteArray) (w : World) : Calls Tryd.prog 56 #[.agg #[.int .i64 k, .string el, .string at_, .int .u8 d, .string pe, .string re, .int .i64 pa, .string wo]] w fun e w' => e = .returned (.int .i64 (kdM el.data.toList at_.data.toList)) ∧ Below w.heap.size w w' := by
  have cB := fun w => refBegins_bar el w
  have cA := fun w => refAttr_any el at_ w
  unfold kdM
  generalize Lib.hasPrefix el.data.toList [47] = b at cB ⊢
  generalize attrK el.data.toList at_.data.toList = r at cA ⊢
  have cB := hide cB; have cA := hide cA
  have hB := (Below.refl w.heap.size w).alloc (Nat.le_refl _) (.cells #[.int .i64 k, .string el, .string at_, .int .u8 d, .string pe, .string re, .int .i64 pa, .string wo] 29)
  cases b
  · go_enter Tryd.func56, Tryd.ntmps56
    go_wp2_with (first | (go_at_call 83; refine (cB.out _).mono ?_; rintro e w1 ⟨rfl, rfl⟩) | (go_at_call 84; refine (cA.out _).mono ?_; rintro e w1 ⟨rfl, hb1⟩))
    go_ret
    exact ⟨rfl, hB.trans (hb1.mono hB.size)⟩
  · go_enter Tryd.func56, Tryd.ntmps56
    go_wp2_with (first | (go_at_call 83; refine (cB.out _).mono ?_; rintro e w1 ⟨rfl, rfl⟩))
    go_ret
    exact ⟨rfl, hB⟩
theorem kdM_range (el at_ : List UInt8) : 0 ≤ kdM el at_ ∧ kdM el at_ ≤ 4 := by
  unfold kdM
  split
  · omega
  · exact attrK_range el at_
def langM (k kd : Int) : Int := if k = 18 then 3 else if k = 19 then 2 else if (k = 9 ∨ k = 10) ∧ kd < 4 then kd else 0
set_option maxHeartbeats 1000000 in
set_option maxRecDepth 100000 in
theorem lang_0 (el at_ : ByteArray) (d : Int) (pe re : ByteArray) (pa : Int) (wo : ByteArray) (w : World) : Calls Tryd.prog 27 #[.agg #[.int .i64 0, .string el, .string at_, .int .u8 d, .string pe, .string re, .int .i64 pa, .string wo]] w fun e w' => e = .returned (.int .i64 (langM 0 (kdM el.data.toList at_.data.toList))) ∧ Below w.heap.size w w' := by
  have hK := Blk.new w 29 #[.int .i64 0, .string el, .string at_, .int .u8 d, .string pe, .string re, .int .i64 pa, .string wo]
  have hB := (Below.refl w.heap.size w).alloc (Nat.le_refl _) (.cells #[.int .i64 0, .string el, .string at_, .int .u8 d, .string pe, .string re, .int .i64 pa, .string wo] 29)
  rw [show langM 0 (kdM el.data.toList at_.data.toList) = 0 by simp [langM]]
  go_enter Tryd.func27, Tryd.ntmps27
  go_wp2_with fail
  go_ret
  exact ⟨rfl, hB⟩
set_option maxHeartbeats 1000000 in
set_option maxRecDepth 100000 in
theorem lang_1 (el at_ : ByteArray) (d : Int) (pe re : ByteArray) (pa : Int) (wo : ByteArray) (w : World) : Calls Tryd.prog 27 #[.agg #[.int .i64 1, .string el, .string at_, .int .u8 d, .string pe, .string re, .int .i64 pa, .string wo]] w fun e w' => e = .returned (.int .i64 (langM 1 (kdM el.data.toList at_.data.toList))) ∧ Below w.heap.size w w' := by
  have hK := Blk.new w 29 #[.int .i64 1, .string el, .string at_, .int .u8 d, .string pe, .string re, .int .i64 pa, .string wo]
  have hB := (Below.refl w.heap.size w).alloc (Nat.le_refl _) (.cells #[.int .i64 1, .string el, .string at_, .int .u8 d, .string pe, .string re, .int .i64 pa, .string wo] 29)
  rw [show langM 1 (kdM el.data.toList at_.data.toList) = 0 by simp [langM]]
  go_enter Tryd.func27, Tryd.ntmps27
  go_wp2_with fail
  go_ret
  exact ⟨rfl, hB⟩
set_option maxHeartbeats 1000000 in
set_option maxRecDepth 100000 in
theorem lang_2 (el at_ : ByteArray) (d : Int) (pe re : ByteArray) (pa : Int) (wo : ByteArray) (w : World) : Calls Tryd.prog 27 #[.agg #[.int .i64 2, .string el, .string at_, .int .u8 d, .string pe, .string re, .int .i64 pa, .string wo]] w fun e w' => e = .returned (.int .i64 (langM 2 (kdM el.data.toList at_.data.toList))) ∧ Below w.heap.size w w' := by
  have hK := Blk.new w 29 #[.int .i64 2, .string el, .string at_, .int .u8 d, .string pe, .string re, .int .i64 pa, .string wo]
  have hB := (Below.refl w.heap.size w).alloc (Nat.le_refl _) (.cells #[.int .i64 2, .string el, .string at_, .int .u8 d, .string pe, .string re, .int .i64 pa, .string wo] 29)
  rw [show langM 2 (kdM el.data.toList at_.data.toList) = 0 by simp [langM]]
  go_enter Tryd.func27, Tryd.ntmps27
  go_wp2_with fail
  go_ret
  exact ⟨rfl, hB⟩
set_option maxHeartbeats 1000000 in
set_option maxRecDepth 100000 in
theorem lang_3 (el at_ : ByteArray) (d : Int) (pe re : ByteArray) (pa : Int) (wo : ByteArray) (w : World) : Calls Tryd.prog 27 #[.agg #[.int .i64 3, .string el, .string at_, .int .u8 d, .string pe, .string re, .int .i64 pa, .string wo]] w fun e w' => e = .returned (.int .i64 (langM 3 (kdM el.data.toList at_.data.toList))) ∧ Below w.heap.size w w' := by
  have hK := Blk.new w 29 #[.int .i64 3, .string el, .string at_, .int .u8 d, .string pe, .string re, .int .i64 pa, .string wo]
  have hB := (Below.refl w.heap.size w).alloc (Nat.le_refl _) (.cells #[.int .i64 3, .string el, .string at_, .int .u8 d, .string pe, .string re, .int .i64 pa, .string wo] 29)
  rw [show langM 3 (kdM el.data.toList at_.data.toList) = 0 by simp [langM]]
  go_enter Tryd.func27, Tryd.ntmps27
  go_wp2_with fail
  go_ret
  exact ⟨rfl, hB⟩
set_option maxHeartbeats 1000000 in
set_option maxRecDepth 100000 in
theorem lang_4 (el at_ : ByteArray) (d : Int) (pe re : ByteArray) (pa : Int) (wo : ByteArray) (w : World) : Calls Tryd.prog 27 #[.agg #[.int .i64 4, .string el, .string at_, .int .u8 d, .string pe, .string re, .int .i64 pa, .string wo]] w fun e w' => e = .returned (.int .i64 (langM 4 (kdM el.data.toList at_.data.toList))) ∧ Below w.heap.size w w' := by
  have hK := Blk.new w 29 #[.int .i64 4, .string el, .string at_, .int .u8 d, .string pe, .string re, .int .i64 pa, .string wo]
  have hB := (Below.refl w.heap.size w).alloc (Nat.le_refl _) (.cells #[.int .i64 4, .string el, .string at_, .int .u8 d, .string pe, .string re, .int .i64 pa, .string wo] 29)
  rw [show langM 4 (kdM el.data.toList at_.data.toList) = 0 by simp [langM]]
  go_enter Tryd.func27, Tryd.ntmps27
  go_wp2_with fail
  go_ret
  exact ⟨rfl, hB⟩
set_option maxHeartbeats 1000000 in
set_option maxRecDepth 100000 in
theorem lang_5 (el at_ : ByteArray) (d : Int) (pe re : ByteArray) (pa : Int) (wo : ByteArray) (w : World) : Calls Tryd.prog 27 #[.agg #[.int .i64 5, .string el, .string at_, .int .u8 d, .string pe, .string re, .int .i64 pa, .string wo]] w fun e w' => e = .returned (.int .i64 (langM 5 (kdM el.data.toList at_.data.toList))) ∧ Below w.heap.size w w' := by
  have hK := Blk.new w 29 #[.int .i64 5, .string el, .string at_, .int .u8 d, .string pe, .string re, .int .i64 pa, .string wo]
  have hB := (Below.refl w.heap.size w).alloc (Nat.le_refl _) (.cells #[.int .i64 5, .string el, .string at_, .int .u8 d, .string pe, .string re, .int .i64 pa, .string wo] 29)
  rw [show langM 5 (kdM el.data.toList at_.data.toList) = 0 by simp [langM]]
  go_enter Tryd.func27, Tryd.ntmps27
  go_wp2_with fail
  go_ret
  exact ⟨rfl, hB⟩
set_option maxHeartbeats 1000000 in
set_option maxRecDepth 100000 in
theorem lang_6 (el at_ : ByteArray) (d : Int) (pe re : ByteArray) (pa : Int) (wo : ByteArray) (w : World) : Calls Tryd.prog 27 #[.agg #[.int .i64 6, .string el, .string at_, .int .u8 d, .string pe, .string re, .int .i64 pa, .string wo]] w fun e w' => e = .returned (.int .i64 (langM 6 (kdM el.data.toList at_.data.toList))) ∧ Below w.heap.size w w' := by
  have hK := Blk.new w 29 #[.int .i64 6, .string el, .string at_, .int .u8 d, .string pe, .string re, .int .i64 pa, .string wo]
  have hB := (Below.refl w.heap.size w).alloc (Nat.le_refl _) (.cells #[.int .i64 6, .string el, .string at_, .int .u8 d, .string pe, .string re, .int .i64 pa, .string wo] 29)
  rw [show langM 6 (kdM el.data.toList at_.data.toList) = 0 by simp [langM]]
  go_enter Tryd.func27, Tryd.ntmps27
  go_wp2_with fail
  go_ret
  exact ⟨rfl, hB⟩
set_option maxHeartbeats 1000000 in
set_option maxRecDepth 100000 in
theorem lang_7 (el at_ : ByteArray) (d : Int) (pe re : ByteArray) (pa : Int) (wo : ByteArray) (w : World) : Calls Tryd.prog 27 #[.agg #[.int .i64 7, .string el, .string at_, .int .u8 d, .string pe, .string re, .int .i64 pa, .string wo]] w fun e w' => e = .returned (.int .i64 (langM 7 (kdM el.data.toList at_.data.toList))) ∧ Below w.heap.size w w' := by
  have hK := Blk.new w 29 #[.int .i64 7, .string el, .string at_, .int .u8 d, .string pe, .string re, .int .i64 pa, .string wo]
  have hB := (Below.refl w.heap.size w).alloc (Nat.le_refl _) (.cells #[.int .i64 7, .string el, .string at_, .int .u8 d, .string pe, .string re, .int .i64 pa, .string wo] 29)
  rw [show langM 7 (kdM el.data.toList at_.data.toList) = 0 by simp [langM]]
  go_enter Tryd.func27, Tryd.ntmps27
  go_wp2_with fail
  go_ret
  exact ⟨rfl, hB⟩
set_option maxHeartbeats 1000000 in
set_option maxRecDepth 100000 in
theorem lang_8 (el at_ : ByteArray) (d : Int) (pe re : ByteArray) (pa : Int) (wo : ByteArray) (w : World) : Calls Tryd.prog 27 #[.agg #[.int .i64 8, .string el, .string at_, .int .u8 d, .string pe, .string re, .int .i64 pa, .string wo]] w fun e w' => e = .returned (.int .i64 (langM 8 (kdM el.data.toList at_.data.toList))) ∧ Below w.heap.size w w' := by
  have hK := Blk.new w 29 #[.int .i64 8, .string el, .string at_, .int .u8 d, .string pe, .string re, .int .i64 pa, .string wo]
  have hB := (Below.refl w.heap.size w).alloc (Nat.le_refl _) (.cells #[.int .i64 8, .string el, .string at_, .int .u8 d, .string pe, .string re, .int .i64 pa, .string wo] 29)
  rw [show langM 8 (kdM el.data.toList at_.data.toList) = 0 by simp [langM]]
  go_enter Tryd.func27, Tryd.ntmps27
  go_wp2_with fail
  go_ret
  exact ⟨rfl, hB⟩
set_option maxHeartbeats 1000000 in
set_option maxRecDepth 100000 in
theorem lang_9 (el at_ : ByteArray) (d : Int) (pe re : ByteArray) (pa : Int) (wo : ByteArray) (w : World) : Calls Tryd.prog 27 #[.agg #[.int .i64 9, .string el, .string at_, .int .u8 d, .string pe, .string re, .int .i64 pa, .string wo]] w fun e w' => e = .returned (.int .i64 (langM 9 (kdM el.data.toList at_.data.toList))) ∧ Below w.heap.size w w' := by
  have hK := Blk.new w 29 #[.int .i64 9, .string el, .string at_, .int .u8 d, .string pe, .string re, .int .i64 pa, .string wo]
  have hB := (Below.refl w.heap.size w).alloc (Nat.le_refl _) (.cells #[.int .i64 9, .string el, .string at_, .int .u8 d, .string pe, .string re, .int .i64 pa, .string wo] 29)
  have cK := fun w => refKind_any 9 (by decide) (by decide) el at_ d pe re pa wo w
  have hr := kdM_range el.data.toList at_.data.toList
  generalize kdM el.data.toList at_.data.toList = kd at cK hr ⊢
  have cK := hide cK
  by_cases h4 : kd < 4
  · rw [show langM 9 kd = kd by simp [langM, h4]]
    go_enter Tryd.func27, Tryd.ntmps27
    go_wp2_with fail
    generalize w.alloc (.cells #[.int .i64 9, .string el, .string at_, .int .u8 d, .string pe, .string re, .int .i64 pa, .string wo] 29) = W at hK hB ⊢
    refine (cK.out _).mono ?_
    rintro e w1 ⟨rfl, hb1⟩
    have hK1 := hK.below hb1 hK.lt
    have hB1 := hB.trans (hb1.mono hB.size)
    obtain ⟨k0, k1, k2, k3, k4, k5, k6, k7⟩ := hK1.eight
    go_wp2_with fail
    refine (cK.out _).mono ?_
    rintro e w2 ⟨rfl, hb2⟩
    go_wp2_with fail
    go_ret
    exact ⟨rfl, hB1.trans (hb2.mono hB1.size)⟩
  · rw [show langM 9 kd = 0 by simp [langM, h4]]
    have h4d : decide (kd < 4) = false := by simpa using h4
    go_enter Tryd.func27, Tryd.ntmps27
    go_wp2_with fail
    refine (cK.out _).mono ?_
    rintro e w1 ⟨rfl, hb1⟩
    go_wp2_with fail
    go_ret
    exact ⟨rfl, hB.trans (hb1.mono hB.size)⟩
set_option maxHeartbeats 1000000 in
set_option maxRecDepth 100000 in
theorem lang_10 (el at_ : ByteArray) (d : Int) (pe re : ByteArray) (pa : Int) (wo : ByteArray) (w : World) : Calls Tryd.prog 27 #[.agg #[.int .i64 10, .string el, .string at_, .int .u8 d, .string pe, .string re, .int .i64 pa, .string wo]] w fun e w' => e = .returned (.int .i64 (langM 10 (kdM el.data.toList at_.data.toList))) ∧ Below w.heap.size w w' := by
  have hK := Blk.new w 29 #[.int .i64 10, .string el, .string at_, .int .u8 d, .string pe, .string re, .int .i64 pa, .string wo]
  have hB := (Below.refl w.heap.size w).alloc (Nat.le_refl _) (.cells #[.int .i64 10, .string el, .string at_, .int .u8 d, .string pe, .string re, .int .i64 pa, .string wo] 29)
  have cK := fun w => refKind_any 10 (by decide) (by decide) el at_ d pe re pa wo w
  have hr := kdM_range el.data.toList at_.data.toList
  generalize kdM el.data.toList at_.data.toList = kd at cK hr ⊢
  have cK := hide cK
  by_cases h4 : kd < 4
  · rw [show langM 10 kd = kd by simp [langM, h4]]
    go_enter Tryd.func27, Tryd.ntmps27
    go_wp2_with fail
    generalize w.alloc (.cells #[.int .i64 10, .string el, .string at_, .int .u8 d, .string pe, .string re, .int .i64 pa, .string wo] 29) = W at hK hB ⊢
    refine (cK.out _).mono ?_
    rintro e w1 ⟨rfl, hb1⟩
    have hK1 := hK.below hb1 hK.lt
    have hB1 := hB.trans (hb1.mono hB.size)
    obtain ⟨k0, k1, k2, k3, k4, k5, k6, k7⟩ := hK1.eight
    go_wp2_with fail
    refine (cK.out _).mono ?_
    rintro e w2 ⟨rfl, hb2⟩
    go_wp2_with fail
    go_ret
    exact ⟨rfl, hB1.trans (hb2.mono hB1.size)⟩
  · rw [show langM 10 kd = 0 by simp [langM, h4]]
    have h4d : decide (kd < 4) = false := by simpa using h4
    go_enter Tryd.func27, Tryd.ntmps27
    go_wp2_with fail
    refine (cK.out _).mono ?_
    rintro e w1 ⟨rfl, hb1⟩
    go_wp2_with fail
    go_ret
    exact ⟨rfl, hB.trans (hb1.mono hB.size)⟩
set_option maxHeartbeats 1000000 in
set_option maxRecDepth 100000 in
theorem lang_11 (el at_ : ByteArray) (d : Int) (pe re : ByteArray) (pa : Int) (wo : ByteArray) (w : World) : Calls Tryd.prog 27 #[.agg #[.int .i64 11, .string el, .string at_, .int .u8 d, .string pe, .string re, .int .i64 pa, .string wo]] w fun e w' => e = .returned (.int .i64 (langM 11 (kdM el.data.toList at_.data.toList))) ∧ Below w.heap.size w w' := by
  have hK := Blk.new w 29 #[.int .i64 11, .string el, .string at_, .int .u8 d, .string pe, .string re, .int .i64 pa, .string wo]
  have hB := (Below.refl w.heap.size w).alloc (Nat.le_refl _) (.cells #[.int .i64 11, .string el, .string at_, .int .u8 d, .string pe, .string re, .int .i64 pa, .string wo] 29)
  rw [show langM 11 (kdM el.data.toList at_.data.toList) = 0 by simp [langM]]
  go_enter Tryd.func27, Tryd.ntmps27
  go_wp2_with fail
  go_ret
  exact ⟨rfl, hB⟩
set_option maxHeartbeats 1000000 in
set_option maxRecDepth 100000 in
theorem lang_12 (el at_ : ByteArray) (d : Int) (pe re : ByteArray) (pa : Int) (wo : ByteArray) (w : World) : Calls Tryd.prog 27 #[.agg #[.int .i64 12, .string el, .string at_, .int .u8 d, .string pe, .string re, .int .i64 pa, .string wo]] w fun e w' => e = .returned (.int .i64 (langM 12 (kdM el.data.toList at_.data.toList))) ∧ Below w.heap.size w w' := by
  have hK := Blk.new w 29 #[.int .i64 12, .string el, .string at_, .int .u8 d, .string pe, .string re, .int .i64 pa, .string wo]
  have hB := (Below.refl w.heap.size w).alloc (Nat.le_refl _) (.cells #[.int .i64 12, .string el, .string at_, .int .u8 d, .string pe, .string re, .int .i64 pa, .string wo] 29)
  rw [show langM 12 (kdM el.data.toList at_.data.toList) = 0 by simp [langM]]
  go_enter Tryd.func27, Tryd.ntmps27
  go_wp2_with fail
  go_ret
  exact ⟨rfl, hB⟩
set_option maxHeartbeats 1000000 in
set_option maxRecDepth 100000 in
theorem lang_13 (el at_ : ByteArray) (d : Int) (pe re : ByteArray) (pa : Int) (wo : ByteArray) (w : World) : Calls Tryd.prog 27 #[.agg #[.int .i64 13, .string el, .string at_, .int .u8 d, .string pe, .string re, .int .i64 pa, .string wo]] w fun e w' => e = .returned (.int .i64 (langM 13 (kdM el.data.toList at_.data.toList))) ∧ Below w.heap.size w w' := by
  have hK := Blk.new w 29 #[.int .i64 13, .string el, .string at_, .int .u8 d, .string pe, .string re, .int .i64 pa, .string wo]
  have hB := (Below.refl w.heap.size w).alloc (Nat.le_refl _) (.cells #[.int .i64 13, .string el, .string at_, .int .u8 d, .string pe, .string re, .int .i64 pa, .string wo] 29)
  rw [show langM 13 (kdM el.data.toList at_.data.toList) = 0 by simp [langM]]
  go_enter Tryd.func27, Tryd.ntmps27
  go_wp2_with fail
  go_ret
  exact ⟨rfl, hB⟩
set_option maxHeartbeats 1000000 in
set_option maxRecDepth 100000 in
theorem lang_14 (el at_ : ByteArray) (d : Int) (pe re : ByteArray) (pa : Int) (wo : ByteArray) (w : World) : Calls Tryd.prog 27 #[.agg #[.int .i64 14, .string el, .string at_, .int .u8 d, .string pe, .string re, .int .i64 pa, .string wo]] w fun e w' => e = .returned (.int .i64 (langM 14 (kdM el.data.toList at_.data.toList))) ∧ Below w.heap.size w w' := by
  have hK := Blk.new w 29 #[.int .i64 14, .string el, .string at_, .int .u8 d, .string pe, .string re, .int .i64 pa, .string wo]
  have hB := (Below.refl w.heap.size w).alloc (Nat.le_refl _) (.cells #[.int .i64 14, .string el, .string at_, .int .u8 d, .string pe, .string re, .int .i64 pa, .string wo] 29)
  rw [show langM 14 (kdM el.data.toList at_.data.toList) = 0 by simp [langM]]
  go_enter Tryd.func27, Tryd.ntmps27
  go_wp2_with fail
  go_ret
  exact ⟨rfl, hB⟩
set_option maxHeartbeats 1000000 in
set_option maxRecDepth 100000 in
theorem lang_15 (el at_ : ByteArray) (d : Int) (pe re : ByteArray) (pa : Int) (wo : ByteArray) (w : World) : Calls Tryd.prog 27 #[.agg #[.int .i64 15, .string el, .string at_, .int .u8 d, .string pe, .string re, .int .i64 pa, .string wo]] w fun e w' => e = .returned (.int .i64 (langM 15 (kdM el.data.toList at_.data.toList))) ∧ Below w.heap.size w w' := by
  have hK := Blk.new w 29 #[.int .i64 15, .string el, .string at_, .int .u8 d, .string pe, .string re, .int .i64 pa, .string wo]
  have hB := (Below.refl w.heap.size w).alloc (Nat.le_refl _) (.cells #[.int .i64 15, .string el, .string at_, .int .u8 d, .string pe, .string re, .int .i64 pa, .string wo] 29)
  rw [show langM 15 (kdM el.data.toList at_.data.toList) = 0 by simp [langM]]
  go_enter Tryd.func27, Tryd.ntmps27
  go_wp2_with fail
  go_ret
  exact ⟨rfl, hB⟩
set_option maxHeartbeats 1000000 in
set_option maxRecDepth 100000 in
theorem lang_16 (el at_ : ByteArray) (d : Int) (pe re : ByteArray) (pa : Int) (wo : ByteArray) (w : World) : Calls Tryd.prog 27 #[.agg #[.int .i64 16, .string el, .string at_, .int .u8 d, .string pe, .string re, .int .i64 pa, .string wo]] w fun e w' => e = .returned (.int .i64 (langM 16 (kdM el.data.toList at_.data.toList))) ∧ Below w.heap.size w w' := by
  have hK := Blk.new w 29 #[.int .i64 16, .string el, .string at_, .int .u8 d, .string pe, .string re, .int .i64 pa, .string wo]
  have hB := (Below.refl w.heap.size w).alloc (Nat.le_refl _) (.cells #[.int .i64 16, .string el, .string at_, .int .u8 d, .string pe, .string re, .int .i64 pa, .string wo] 29)
  rw [show langM 16 (kdM el.data.toList at_.data.toList) = 0 by simp [langM]]
  go_enter Tryd.func27, Tryd.ntmps27
  go_wp2_with fail
  go_ret
  exact ⟨rfl, hB⟩
set_option maxHeartbeats 1000000 in
set_option maxRecDepth 100000 in
theorem lang_17 (el at_ : ByteArray) (d : Int) (pe re : ByteArray) (pa : Int) (wo : ByteArray) (w : World) : Calls Tryd.prog 27 #[.agg #[.int .i64 17, .string el, .string at_, .int .u8 d, .string pe, .string re, .int .i64 pa, .string wo]] w fun e w' => e = .returned (.int .i64 (langM 17 (kdM el.data.toList at_.data.toList))) ∧ Below w.heap.size w w' := by
  have hK := Blk.new w 29 #[.int .i64 17, .string el, .string at_, .int .u8 d, .string pe, .string re, .int .i64 pa, .string wo]
  have hB := (Below.refl w.heap.size w).alloc (Nat.le_refl _) (.cells #[.int .i64 17, .string el, .string at_, .int .u8 d, .string pe, .string re, .int .i64 pa, .string wo] 29)
  rw [show langM 17 (kdM el.data.toList at_.data.toList) = 0 by simp [langM]]
  go_enter Tryd.func27, Tryd.ntmps27
  go_wp2_with fail
  go_ret
  exact ⟨rfl, hB⟩
set_option maxHeartbeats 1000000 in
set_option maxRecDepth 100000 in
theorem lang_18 (el at_ : ByteArray) (d : Int) (pe re : ByteArray) (pa : Int) (wo : ByteArray) (w : World) : Calls Tryd.prog 27 #[.agg #[.int .i64 18, .string el, .string at_, .int .u8 d, .string pe, .string re, .int .i64 pa, .string wo]] w fun e w' => e = .returned (.int .i64 (langM 18 (kdM el.data.toList at_.data.toList))) ∧ Below w.heap.size w w' := by
  have hK := Blk.new w 29 #[.int .i64 18, .string el, .string at_, .int .u8 d, .string pe, .string re, .int .i64 pa, .string wo]
  have hB := (Below.refl w.heap.size w).alloc (Nat.le_refl _) (.cells #[.int .i64 18, .string el, .string at_, .int .u8 d, .string pe, .string re, .int .i64 pa, .string wo] 29)
  rw [show langM 18 (kdM el.data.toList at_.data.toList) = 3 by simp [langM]]
  go_enter Tryd.func27, Tryd.ntmps27
  go_wp2_with fail
  go_ret
  exact ⟨rfl, hB⟩
set_option maxHeartbeats 1000000 in
set_option maxRecDepth 100000 in
theorem lang_19 (el at_ : ByteArray) (d : Int) (pe re : ByteArray) (pa : Int) (wo : ByteArray) (w : World) : Calls Tryd.prog 27 #[.agg #[.int .i64 19, .string el, .string at_, .int .u8 d, .string pe, .string re, .int .i64 pa, .string wo]] w fun e w' => e = .returned (.int .i64 (langM 19 (kdM el.data.toList at_.data.toList))) ∧ Below w.heap.size w w' := by
  have hK := Blk.new w 29 #[.int .i64 19, .string el, .string at_, .int .u8 d, .string pe, .string re, .int .i64 pa, .string wo]
  have hB := (Below.refl w.heap.size w).alloc (Nat.le_refl _) (.cells #[.int .i64 19, .string el, .string at_, .int .u8 d, .string pe, .string re, .int .i64 pa, .string wo] 29)
  rw [show langM 19 (kdM el.data.toList at_.data.toList) = 2 by simp [langM]]
  go_enter Tryd.func27, Tryd.ntmps27
  go_wp2_with fail
  go_ret
  exact ⟨rfl, hB⟩
theorem lang_sub (k : Int) (el at_ : List UInt8) (h : langM k (kdM el at_) = 0) : subM k el at_ = false := by
  have hr := kdM_range el at_
  unfold subM
  by_cases h18 : k = 18
  · simp [langM, h18] at h
  · by_cases h19 : k = 19
    · simp [langM, h19] at h
    · have e1 : inK k 18 19 = false := by unfold inK; simp; omega
      rw [e1, Bool.false_or]
      by_cases h9 : k = 9 ∨ k = 10
      · have e2 : kindM k el at_ = kdM el at_ := by
          unfold kindM kdM
          have : inK k 8 10 = true := by unfold inK; simp; omega
          rw [this]; simp
        rw [e2]
        unfold langM at h
        rw [if_neg h18, if_neg h19] at h
        by_cases h4 : kdM el at_ < 4
        · rw [if_pos ⟨h9, h4⟩] at h
          rw [h]; simp
        · have : decide (kdM el at_ ≤ 3) = false := by simp; omega
          rw [this]; simp
      · have : inK k 9 10 = false := by unfold inK; simp; omega
        rw [this, Bool.false_and]
set_option maxHeartbeats 2000000 in
set_option maxRecDepth 100000 in
theorem refCheck_0 (el at_ : ByteArray) (d : Int) (pe re : ByteArray) (pa : Int) (wo : ByteArray) (w : World) (z1 : (el.size : Int) ≤ 33) (z2 : (at_.size : Int) ≤ 32) (z4 : (pe.size : Int) ≤ 34) (z5 : (re.size : Int) ≤ 16) (z7 : (wo.size : Int) ≤ 16) (p0 : 0 ≤ pa) (p1 : pa ≤ 15)
    (h2 : (el.data.toList.isEmpty || (inK 0 3 12 || inK 0 17 19)) = true) (h3 : (at_.data.toList.isEmpty || inK 0 6 10) = true) (h4 : chkD 0 d = true) (h5 : (pe.data.toList.isEmpty || inK 0 16 19) = true)
    (h6 : (re.data.toList.isEmpty || ((0 : Int) == 0 || ((0 : Int) == 17 || inK 0 9 10))) = true) (h7 : langM 0 (kdM el.data.toList at_.data.toList) ≠ 0 ∨ (pa = 0 ∧ wo.toList.isEmpty = true)) :
    Calls Tryd.prog 14 #[.agg #[.int .i64 0, .string el, .string at_, .int .u8 d, .string pe, .string re, .int .i64 pa, .string wo]] w fun e w' => e = .returned (.int .i64 0) ∧ Below w.heap.size w w' := by
  have cL := hide (lang_0 el at_ d pe re pa wo)
  generalize langM 0 (kdM el.data.toList at_.data.toList) = lg at cL h7
  have hB := (Below.refl w.heap.size w).alloc (Nat.le_refl _) (.cells #[.int .i64 0, .string el, .string at_, .int .u8 d, .string pe, .string re, .int .i64 pa, .string wo] 29)
  have hK := Blk.new w 29 #[.int .i64 0, .string el, .string at_, .int .u8 d, .string pe, .string re, .int .i64 pa, .string wo]
  have q1 : el.toList.isEmpty = true := by rw [ByteArray.toList_eq]; exact orL h2 (by decide)
  have q2 : at_.toList.isEmpty = true := by rw [ByteArray.toList_eq]; exact orL h3 (by decide)
  have q4 : pe.toList.isEmpty = true := by rw [ByteArray.toList_eq]; exact orL h5 (by decide)
  have hd : d = 0 := by
    unfold chkD at h4
    simp at h4
    omega
  subst hd
  clear h2 h3 h4 h5 h6
  go_enter Tryd.func14, Tryd.ntmps14
  go_wp2_with fail
  generalize w.alloc (.cells #[.int .i64 0, .string el, .string at_, .int .u8 0, .string pe, .string re, .int .i64 pa, .string wo] 29) = W at hK hB ⊢
  refine (cL.out _).mono ?_
  rintro e w1 ⟨rfl, hb1⟩
  have hK1 := hK.below hb1 hK.lt
  have hB1 := hB.trans (hb1.mono hB.size)
  obtain ⟨k0, k1, k2, k3, k4, k5, k6, k7⟩ := hK1.eight
  rcases h7 with h7 | ⟨rfl, h7⟩
  · have hl : (lg == 0) = false := by simpa using h7
    clear h7
    go_wp2_with fail
    go_ret
    exact ⟨rfl, hB1⟩
  · rcases Bool.eq_false_or_eq_true (lg == 0) with hl | hl
    · go_wp2_with fail
      go_ret
      exact ⟨rfl, hB1⟩
    · go_wp2_with fail
      go_ret
      exact ⟨rfl, hB1⟩
set_option maxHeartbeats 2000000 in
set_option maxRecDepth 100000 in
theorem refCheck_1 (el at_ : ByteArray) (d : Int) (pe re : ByteArray) (pa : Int) (wo : ByteArray) (w : World) (z1 : (el.size : Int) ≤ 33) (z2 : (at_.size : Int) ≤ 32) (z4 : (pe.size : Int) ≤ 34) (z5 : (re.size : Int) ≤ 16) (z7 : (wo.size : Int) ≤ 16) (p0 : 0 ≤ pa) (p1 : pa ≤ 15)
    (h2 : (el.data.toList.isEmpty || (inK 1 3 12 || inK 1 17 19)) = true) (h3 : (at_.data.toList.isEmpty || inK 1 6 10) = true) (h4 : chkD 1 d = true) (h5 : (pe.data.toList.isEmpty || inK 1 16 19) = true)
    (h6 : (re.data.toList.isEmpty || ((1 : Int) == 0 || ((1 : Int) == 17 || inK 1 9 10))) = true) (h7 : langM 1 (kdM el.data.toList at_.data.toList) ≠ 0 ∨ (pa = 0 ∧ wo.toList.isEmpty = true)) :
    Calls Tryd.prog 14 #[.agg #[.int .i64 1, .string el, .string at_, .int .u8 d, .string pe, .string re, .int .i64 pa, .string wo]] w fun e w' => e = .returned (.int .i64 0) ∧ Below w.heap.size w w' := by
  have cL := hide (lang_1 el at_ d pe re pa wo)
  generalize langM 1 (kdM el.data.toList at_.data.toList) = lg at cL h7
  have hB := (Below.refl w.heap.size w).alloc (Nat.le_refl _) (.cells #[.int .i64 1, .string el, .string at_, .int .u8 d, .string pe, .string re, .int .i64 pa, .string wo] 29)
  have hK := Blk.new w 29 #[.int .i64 1, .string el, .string at_, .int .u8 d, .string pe, .string re, .int .i64 pa, .string wo]
  have q1 : el.toList.isEmpty = true := by rw [ByteArray.toList_eq]; exact orL h2 (by decide)
  have q2 : at_.toList.isEmpty = true := by rw [ByteArray.toList_eq]; exact orL h3 (by decide)
  have q4 : pe.toList.isEmpty = true := by rw [ByteArray.toList_eq]; exact orL h5 (by decide)
  have q5 : re.toList.isEmpty = true := by rw [ByteArray.toList_eq]; exact orL h6 (by decide)
  have hd : d = 0 := by
    unfold chkD at h4
    simp at h4
    omega
  subst hd
  clear h2 h3 h4 h5 h6
  go_enter Tryd.func14, Tryd.ntmps14
  go_wp2_with fail
  generalize w.alloc (.cells #[.int .i64 1, .string el, .string at_, .int .u8 0, .string pe, .string re, .int .i64 pa, .string wo] 29) = W at hK hB ⊢
  refine (cL.out _).mono ?_
  rintro e w1 ⟨rfl, hb1⟩
  have hK1 := hK.below hb1 hK.lt
  have hB1 := hB.trans (hb1.mono hB.size)
  obtain ⟨k0, k1, k2, k3, k4, k5, k6, k7⟩ := hK1.eight
  rcases h7 with h7 | ⟨rfl, h7⟩
  · have hl : (lg == 0) = false := by simpa using h7
    clear h7
    go_wp2_with fail
    go_ret
    exact ⟨rfl, hB1⟩
  · rcases Bool.eq_false_or_eq_true (lg == 0) with hl | hl
    · go_wp2_with fail
      go_ret
      exact ⟨rfl, hB1⟩
    · go_wp2_with fail
      go_ret
      exact ⟨rfl, hB1⟩
set_option maxHeartbeats 2000000 in
set_option maxRecDepth 100000 in
theorem refCheck_2 (el at_ : ByteArray) (d : Int) (pe re : ByteArray) (pa : Int) (wo : ByteArray) (w : World) (z1 : (el.size : Int) ≤ 33) (z2 : (at_.size : Int) ≤ 32) (z4 : (pe.size : Int) ≤ 34) (z5 : (re.size : Int) ≤ 16) (z7 : (wo.size : Int) ≤ 16) (p0 : 0 ≤ pa) (p1 : pa ≤ 15)
    (h2 : (el.data.toList.isEmpty || (inK 2 3 12 || inK 2 17 19)) = true) (h3 : (at_.data.toList.isEmpty || inK 2 6 10) = true) (h4 : chkD 2 d = true) (h5 : (pe.data.toList.isEmpty || inK 2 16 19) = true)
    (h6 : (re.data.toList.isEmpty || ((2 : Int) == 0 || ((2 : Int) == 17 || inK 2 9 10))) = true) (h7 : langM 2 (kdM el.data.toList at_.data.toList) ≠ 0 ∨ (pa = 0 ∧ wo.toList.isEmpty = true)) :
    Calls Tryd.prog 14 #[.agg #[.int .i64 2, .string el, .string at_, .int .u8 d, .string pe, .string re, .int .i64 pa, .string wo]] w fun e w' => e = .returned (.int .i64 0) ∧ Below w.heap.size w w' := by
  have cL := hide (lang_2 el at_ d pe re pa wo)
  generalize langM 2 (kdM el.data.toList at_.data.toList) = lg at cL h7
  have hB := (Below.refl w.heap.size w).alloc (Nat.le_refl _) (.cells #[.int .i64 2, .string el, .string at_, .int .u8 d, .string pe, .string re, .int .i64 pa, .string wo] 29)
  have hK := Blk.new w 29 #[.int .i64 2, .string el, .string at_, .int .u8 d, .string pe, .string re, .int .i64 pa, .string wo]
  have q1 : el.toList.isEmpty = true := by rw [ByteArray.toList_eq]; exact orL h2 (by decide)
  have q2 : at_.toList.isEmpty = true := by rw [ByteArray.toList_eq]; exact orL h3 (by decide)
  have q4 : pe.toList.isEmpty = true := by rw [ByteArray.toList_eq]; exact orL h5 (by decide)
  have q5 : re.toList.isEmpty = true := by rw [ByteArray.toList_eq]; exact orL h6 (by decide)
  have hd : d = 0 := by
    unfold chkD at h4
    simp at h4
    omega
  subst hd
  clear h2 h3 h4 h5 h6
  go_enter Tryd.func14, Tryd.ntmps14
  go_wp2_with fail
  generalize w.alloc (.cells #[.int .i64 2, .string el, .string at_, .int .u8 0, .string pe, .string re, .int .i64 pa, .string wo] 29) = W at hK hB ⊢
  refine (cL.out _).mono ?_
  rintro e w1 ⟨rfl, hb1⟩
  have hK1 := hK.below hb1 hK.lt
  have hB1 := hB.trans (hb1.mono hB.size)
  obtain ⟨k0, k1, k2, k3, k4, k5, k6, k7⟩ := hK1.eight
  rcases h7 with h7 | ⟨rfl, h7⟩
  · have hl : (lg == 0) = false := by simpa using h7
    clear h7
    go_wp2_with fail
    go_ret
    exact ⟨rfl, hB1⟩
  · rcases Bool.eq_false_or_eq_true (lg == 0) with hl | hl
    · go_wp2_with fail
      go_ret
      exact ⟨rfl, hB1⟩
    · go_wp2_with fail
      go_ret
      exact ⟨rfl, hB1⟩
set_option maxHeartbeats 2000000 in
set_option maxRecDepth 100000 in
theorem refCheck_3 (el at_ : ByteArray) (d : Int) (pe re : ByteArray) (pa : Int) (wo : ByteArray) (w : World) (z1 : (el.size : Int) ≤ 33) (z2 : (at_.size : Int) ≤ 32) (z4 : (pe.size : Int) ≤ 34) (z5 : (re.size : Int) ≤ 16) (z7 : (wo.size : Int) ≤ 16) (p0 : 0 ≤ pa) (p1 : pa ≤ 15)
    (h2 : (el.data.toList.isEmpty || (inK 3 3 12 || inK 3 17 19)) = true) (h3 : (at_.data.toList.isEmpty || inK 3 6 10) = true) (h4 : chkD 3 d = true) (h5 : (pe.data.toList.isEmpty || inK 3 16 19) = true)
    (h6 : (re.data.toList.isEmpty || ((3 : Int) == 0 || ((3 : Int) == 17 || inK 3 9 10))) = true) (h7 : langM 3 (kdM el.data.toList at_.data.toList) ≠ 0 ∨ (pa = 0 ∧ wo.toList.isEmpty = true)) :
    Calls Tryd.prog 14 #[.agg #[.int .i64 3, .string el, .string at_, .int .u8 d, .string pe, .string re, .int .i64 pa, .string wo]] w fun e w' => e = .returned (.int .i64 0) ∧ Below w.heap.size w w' := by
  have cL := hide (lang_3 el at_ d pe re pa wo)
  generalize langM 3 (kdM el.data.toList at_.data.toList) = lg at cL h7
  have hB := (Below.refl w.heap.size w).alloc (Nat.le_refl _) (.cells #[.int .i64 3, .string el, .string at_, .int .u8 d, .string pe, .string re, .int .i64 pa, .string wo] 29)
  have hK := Blk.new w 29 #[.int .i64 3, .string el, .string at_, .int .u8 d, .string pe, .string re, .int .i64 pa, .string wo]
  have q2 : at_.toList.isEmpty = true := by rw [ByteArray.toList_eq]; exact orL h3 (by decide)
  have q4 : pe.toList.isEmpty = true := by rw [ByteArray.toList_eq]; exact orL h5 (by decide)
  have q5 : re.toList.isEmpty = true := by rw [ByteArray.toList_eq]; exact orL h6 (by decide)
  have hd : d = 0 := by
    unfold chkD at h4
    simp at h4
    omega
  subst hd
  clear h2 h3 h4 h5 h6
  go_enter Tryd.func14, Tryd.ntmps14
  go_wp2_with fail
  generalize w.alloc (.cells #[.int .i64 3, .string el, .string at_, .int .u8 0, .string pe, .string re, .int .i64 pa, .string wo] 29) = W at hK hB ⊢
  refine (cL.out _).mono ?_
  rintro e w1 ⟨rfl, hb1⟩
  have hK1 := hK.below hb1 hK.lt
  have hB1 := hB.trans (hb1.mono hB.size)
  obtain ⟨k0, k1, k2, k3, k4, k5, k6, k7⟩ := hK1.eight
  rcases h7 with h7 | ⟨rfl, h7⟩
  · have hl : (lg == 0) = false := by simpa using h7
    clear h7
    go_wp2_with fail
    go_ret
    exact ⟨rfl, hB1⟩
  · rcases Bool.eq_false_or_eq_true (lg == 0) with hl | hl
    · go_wp2_with fail
      go_ret
      exact ⟨rfl, hB1⟩
    · go_wp2_with fail
      go_ret
      exact ⟨rfl, hB1⟩
set_option maxHeartbeats 2000000 in
set_option maxRecDepth 100000 in
theorem refCheck_4 (el at_ : ByteArray) (d : Int) (pe re : ByteArray) (pa : Int) (wo : ByteArray) (w : World) (z1 : (el.size : Int) ≤ 33) (z2 : (at_.size : Int) ≤ 32) (z4 : (pe.size : Int) ≤ 34) (z5 : (re.size : Int) ≤ 16) (z7 : (wo.size : Int) ≤ 16) (p0 : 0 ≤ pa) (p1 : pa ≤ 15)
    (h2 : (el.data.toList.isEmpty || (inK 4 3 12 || inK 4 17 19)) = true) (h3 : (at_.data.toList.isEmpty || inK 4 6 10) = true) (h4 : chkD 4 d = true) (h5 : (pe.data.toList.isEmpty || inK 4 16 19) = true)
    (h6 : (re.data.toList.isEmpty || ((4 : Int) == 0 || ((4 : Int) == 17 || inK 4 9 10))) = true) (h7 : langM 4 (kdM el.data.toList at_.data.toList) ≠ 0 ∨ (pa = 0 ∧ wo.toList.isEmpty = true)) :
    Calls Tryd.prog 14 #[.agg #[.int .i64 4, .string el, .string at_, .int .u8 d, .string pe, .string re, .int .i64 pa, .string wo]] w fun e w' => e = .returned (.int .i64 0) ∧ Below w.heap.size w w' := by
  have cL := hide (lang_4 el at_ d pe re pa wo)
  generalize langM 4 (kdM el.data.toList at_.data.toList) = lg at cL h7
  have hB := (Below.refl w.heap.size w).alloc (Nat.le_refl _) (.cells #[.int .i64 4, .string el, .string at_, .int .u8 d, .string pe, .string re, .int .i64 pa, .string wo] 29)
  have hK := Blk.new w 29 #[.int .i64 4, .string el, .string at_, .int .u8 d, .string pe, .string re, .int .i64 pa, .string wo]
  have q2 : at_.toList.isEmpty = true := by rw [ByteArray.toList_eq]; exact orL h3 (by decide)
  have q4 : pe.toList.isEmpty = true := by rw [ByteArray.toList_eq]; exact orL h5 (by decide)
  have q5 : re.toList.isEmpty = true := by rw [ByteArray.toList_eq]; exact orL h6 (by decide)
  have hd : d = 0 := by
    unfold chkD at h4
    simp at h4
    omega
  subst hd
  clear h2 h3 h4 h5 h6
  go_enter Tryd.func14, Tryd.ntmps14
  go_wp2_with fail
  generalize w.alloc (.cells #[.int .i64 4, .string el, .string at_, .int .u8 0, .string pe, .string re, .int .i64 pa, .string wo] 29) = W at hK hB ⊢
  refine (cL.out _).mono ?_
  rintro e w1 ⟨rfl, hb1⟩
  have hK1 := hK.below hb1 hK.lt
  have hB1 := hB.trans (hb1.mono hB.size)
  obtain ⟨k0, k1, k2, k3, k4, k5, k6, k7⟩ := hK1.eight
  rcases h7 with h7 | ⟨rfl, h7⟩
  · have hl : (lg == 0) = false := by simpa using h7
    clear h7
    go_wp2_with fail
    go_ret
    exact ⟨rfl, hB1⟩
  · rcases Bool.eq_false_or_eq_true (lg == 0) with hl | hl
    · go_wp2_with fail
      go_ret
      exact ⟨rfl, hB1⟩
    · go_wp2_with fail
      go_ret
      exact ⟨rfl, hB1⟩
set_option maxHeartbeats 2000000 in
set_option maxRecDepth 100000 in
theorem refCheck_5 (el at_ : ByteArray) (d : Int) (pe re : ByteArray) (pa : Int) (wo : ByteArray) (w : World) (z1 : (el.size : Int) ≤ 33) (z2 : (at_.size : Int) ≤ 32) (z4 : (pe.size : Int) ≤ 34) (z5 : (re.size : Int) ≤ 16) (z7 : (wo.size : Int) ≤ 16) (p0 : 0 ≤ pa) (p1 : pa ≤ 15)
    (h2 : (el.data.toList.isEmpty || (inK 5 3 12 || inK 5 17 19)) = true) (h3 : (at_.data.toList.isEmpty || inK 5 6 10) = true) (h4 : chkD 5 d = true) (h5 : (pe.data.toList.isEmpty || inK 5 16 19) = true)
    (h6 : (re.data.toList.isEmpty || ((5 : Int) == 0 || ((5 : Int) == 17 || inK 5 9 10))) = true) (h7 : langM 5 (kdM el.data.toList at_.data.toList) ≠ 0 ∨ (pa = 0 ∧ wo.toList.isEmpty = true)) :
    Calls Tryd.prog 14 #[.agg #[.int .i64 5, .string el, .string at_, .int .u8 d, .string pe, .string re, .int .i64 pa, .string wo]] w fun e w' => e = .returned (.int .i64 0) ∧ Below w.heap.size w w' := by
  have cL := hide (lang_5 el at_ d pe re pa wo)
  generalize langM 5 (kdM el.data.toList at_.data.toList) = lg at cL h7
  have hB := (Below.refl w.heap.size w).alloc (Nat.le_refl _) (.cells #[.int .i64 5, .string el, .string at_, .int .u8 d, .string pe, .string re, .int .i64 pa, .string wo] 29)
  have hK := Blk.new w 29 #[.int .i64 5, .string el, .string at_, .int .u8 d, .string pe, .string re, .int .i64 pa, .string wo]
  have q2 : at_.toList.isEmpty = true := by rw [ByteArray.toList_eq]; exact orL h3 (by decide)
  have q4 : pe.toList.isEmpty = true := by rw [ByteArray.toList_eq]; exact orL h5 (by decide)
  have q5 : re.toList.isEmpty = true := by rw [ByteArray.toList_eq]; exact orL h6 (by decide)
  have hd : d = 0 := by
    unfold chkD at h4
    simp at h4
    omega
  subst hd
  clear h2 h3 h4 h5 h6
  go_enter Tryd.func14, Tryd.ntmps14
  go_wp2_with fail
  generalize w.alloc (.cells #[.int .i64 5, .string el, .string at_, .int .u8 0, .string pe, .string re, .int .i64 pa, .string wo] 29) = W at hK hB ⊢
  refine (cL.out _).mono ?_
  rintro e w1 ⟨rfl, hb1⟩
  have hK1 := hK.below hb1 hK.lt
  have hB1 := hB.trans (hb1.mono hB.size)
  obtain ⟨k0, k1, k2, k3, k4, k5, k6, k7⟩ := hK1.eight
  rcases h7 with h7 | ⟨rfl, h7⟩
  · have hl : (lg == 0) = false := by simpa using h7
    clear h7
    go_wp2_with fail
    go_ret
    exact ⟨rfl, hB1⟩
  · rcases Bool.eq_false_or_eq_true (lg == 0) with hl | hl
    · go_wp2_with fail
      go_ret
      exact ⟨rfl, hB1⟩
    · go_wp2_with fail
      go_ret
      exact ⟨rfl, hB1⟩
set_option maxHeartbeats 2000000 in
set_option maxRecDepth 100000 in
theorem refCheck_6 (el at_ : ByteArray) (d : Int) (pe re : ByteArray) (pa : Int) (wo : ByteArray) (w : World) (z1 : (el.size : Int) ≤ 33) (z2 : (at_.size : Int) ≤ 32) (z4 : (pe.size : Int) ≤ 34) (z5 : (re.size : Int) ≤ 16) (z7 : (wo.size : Int) ≤ 16) (p0 : 0 ≤ pa) (p1 : pa ≤ 15)
    (h2 : (el.data.toList.isEmpty || (inK 6 3 12 || inK 6 17 19)) = true) (h3 : (at_.data.toList.isEmpty || inK 6 6 10) = true) (h4 : chkD 6 d = true) (h5 : (pe.data.toList.isEmpty || inK 6 16 19) = true)
    (h6 : (re.data.toList.isEmpty || ((6 : Int) == 0 || ((6 : Int) == 17 || inK 6 9 10))) = true) (h7 : langM 6 (kdM el.data.toList at_.data.toList) ≠ 0 ∨ (pa = 0 ∧ wo.toList.isEmpty = true)) :
    Calls Tryd.prog 14 #[.agg #[.int .i64 6, .string el, .string at_, .int .u8 d, .string pe, .string re, .int .i64 pa, .string wo]] w fun e w' => e = .returned (.int .i64 0) ∧ Below w.heap.size w w' := by
  have cL := hide (lang_6 el at_ d pe re pa wo)
  generalize langM 6 (kdM el.data.toList at_.data.toList) = lg at cL h7
  have hB := (Below.refl w.heap.size w).alloc (Nat.le_refl _) (.cells #[.int .i64 6, .string el, .string at_, .int .u8 d, .string pe, .string re, .int .i64 pa, .string wo] 29)
  have hK := Blk.new w 29 #[.int .i64 6, .string el, .string at_, .int .u8 d, .string pe, .string re, .int .i64 pa, .string wo]
  have q4 : pe.toList.isEmpty = true := by rw [ByteArray.toList_eq]; exact orL h5 (by decide)
  have q5 : re.toList.isEmpty = true := by rw [ByteArray.toList_eq]; exact orL h6 (by decide)
  have hd : d = 0 := by
    unfold chkD at h4
    simp at h4
    omega
  subst hd
  clear h2 h3 h4 h5 h6
  go_enter Tryd.func14, Tryd.ntmps14
  go_wp2_with fail
  generalize w.alloc (.cells #[.int .i64 6, .string el, .string at_, .int .u8 0, .string pe, .string re, .int .i64 pa, .string wo] 29) = W at hK hB ⊢
  refine (cL.out _).mono ?_
  rintro e w1 ⟨rfl, hb1⟩
  have hK1 := hK.below hb1 hK.lt
  have hB1 := hB.trans (hb1.mono hB.size)
  obtain ⟨k0, k1, k2, k3, k4, k5, k6, k7⟩ := hK1.eight
  rcases h7 with h7 | ⟨rfl, h7⟩
  · have hl : (lg == 0) = false := by simpa using h7
    clear h7
    go_wp2_with fail
    go_ret
    exact ⟨rfl, hB1⟩
  · rcases Bool.eq_false_or_eq_true (lg == 0) with hl | hl
    · go_wp2_with fail
      go_ret
      exact ⟨rfl, hB1⟩
    · go_wp2_with fail
      go_ret
      exact ⟨rfl, hB1⟩
set_option maxHeartbeats 2000000 in
set_option maxRecDepth 100000 in
theorem refCheck_7 (el at_ : ByteArray) (d : Int) (pe re : ByteArray) (pa : Int) (wo : ByteArray) (w : World) (z1 : (el.size : Int) ≤ 33) (z2 : (at_.size : Int) ≤ 32) (z4 : (pe.size : Int) ≤ 34) (z5 : (re.size : Int) ≤ 16) (z7 : (wo.size : Int) ≤ 16) (p0 : 0 ≤ pa) (p1 : pa ≤ 15)
    (h2 : (el.data.toList.isEmpty || (inK 7 3 12 || inK 7 17 19)) = true) (h3 : (at_.data.toList.isEmpty || inK 7 6 10) = true) (h4 : chkD 7 d = true) (h5 : (pe.data.toList.isEmpty || inK 7 16 19) = true)
    (h6 : (re.data.toList.isEmpty || ((7 : Int) == 0 || ((7 : Int) == 17 || inK 7 9 10))) = true) (h7 : langM 7 (kdM el.data.toList at_.data.toList) ≠ 0 ∨ (pa = 0 ∧ wo.toList.isEmpty = true)) :
    Calls Tryd.prog 14 #[.agg #[.int .i64 7, .string el, .string at_, .int .u8 d, .string pe, .string re, .int .i64 pa, .string wo]] w fun e w' => e = .returned (.int .i64 0) ∧ Below w.heap.size w w' := by
  have cL := hide (lang_7 el at_ d pe re pa wo)
  generalize langM 7 (kdM el.data.toList at_.data.toList) = lg at cL h7
  have hB := (Below.refl w.heap.size w).alloc (Nat.le_refl _) (.cells #[.int .i64 7, .string el, .string at_, .int .u8 d, .string pe, .string re, .int .i64 pa, .string wo] 29)
  have hK := Blk.new w 29 #[.int .i64 7, .string el, .string at_, .int .u8 d, .string pe, .string re, .int .i64 pa, .string wo]
  have q4 : pe.toList.isEmpty = true := by rw [ByteArray.toList_eq]; exact orL h5 (by decide)
  have q5 : re.toList.isEmpty = true := by rw [ByteArray.toList_eq]; exact orL h6 (by decide)
  have hd : d = 0 := by
    unfold chkD at h4
    simp at h4
    omega
  subst hd
  clear h2 h3 h4 h5 h6
  go_enter Tryd.func14, Tryd.ntmps14
  go_wp2_with fail
  generalize w.alloc (.cells #[.int .i64 7, .string el, .string at_, .int .u8 0, .string pe, .string re, .int .i64 pa, .string wo] 29) = W at hK hB ⊢
  refine (cL.out _).mono ?_
  rintro e w1 ⟨rfl, hb1⟩
  have hK1 := hK.below hb1 hK.lt
  have hB1 := hB.trans (hb1.mono hB.size)
  obtain ⟨k0, k1, k2, k3, k4, k5, k6, k7⟩ := hK1.eight
  rcases h7 with h7 | ⟨rfl, h7⟩
  · have hl : (lg == 0) = false := by simpa using h7
    clear h7
    go_wp2_with fail
    go_ret
    exact ⟨rfl, hB1⟩
  · rcases Bool.eq_false_or_eq_true (lg == 0) with hl | hl
    · go_wp2_with fail
      go_ret
      exact ⟨rfl, hB1⟩
    · go_wp2_with fail
      go_ret
      exact ⟨rfl, hB1⟩
set_option maxHeartbeats 2000000 in
set_option maxRecDepth 100000 in
theorem refCheck_8 (el at_ : ByteArray) (d : Int) (pe re : ByteArray) (pa : Int) (wo : ByteArray) (w : World) (z1 : (el.size : Int) ≤ 33) (z2 : (at_.size : Int) ≤ 32) (z4 : (pe.size : Int) ≤ 34) (z5 : (re.size : Int) ≤ 16) (z7 : (wo.size : Int) ≤ 16) (p0 : 0 ≤ pa) (p1 : pa ≤ 15)
    (h2 : (el.data.toList.isEmpty || (inK 8 3 12 || inK 8 17 19)) = true) (h3 : (at_.data.toList.isEmpty || inK 8 6 10) = true) (h4 : chkD 8 d = true) (h5 : (pe.data.toList.isEmpty || inK 8 16 19) = true)
    (h6 : (re.data.toList.isEmpty || ((8 : Int) == 0 || ((8 : Int) == 17 || inK 8 9 10))) = true) (h7 : langM 8 (kdM el.data.toList at_.data.toList) ≠ 0 ∨ (pa = 0 ∧ wo.toList.isEmpty = true)) :
    Calls Tryd.prog 14 #[.agg #[.int .i64 8, .string el, .string at_, .int .u8 d, .string pe, .string re, .int .i64 pa, .string wo]] w fun e w' => e = .returned (.int .i64 0) ∧ Below w.heap.size w w' := by
  have cL := hide (lang_8 el at_ d pe re pa wo)
  generalize langM 8 (kdM el.data.toList at_.data.toList) = lg at cL h7
  have hB := (Below.refl w.heap.size w).alloc (Nat.le_refl _) (.cells #[.int .i64 8, .string el, .string at_, .int .u8 d, .string pe, .string re, .int .i64 pa, .string wo] 29)
  have hK := Blk.new w 29 #[.int .i64 8, .string el, .string at_, .int .u8 d, .string pe, .string re, .int .i64 pa, .string wo]
  have q4 : pe.toList.isEmpty = true := by rw [ByteArray.toList_eq]; exact orL h5 (by decide)
  have q5 : re.toList.isEmpty = true := by rw [ByteArray.toList_eq]; exact orL h6 (by decide)
  have hd : d = 0 := by
    unfold chkD at h4
    simp at h4
    omega
  subst hd
  clear h2 h3 h4 h5 h6
  go_enter Tryd.func14, Tryd.ntmps14
  go_wp2_with fail
  generalize w.alloc (.cells #[.int .i64 8, .string el, .string at_, .int .u8 0, .string pe, .string re, .int .i64 pa, .string wo] 29) = W at hK hB ⊢
  refine (cL.out _).mono ?_
  rintro e w1 ⟨rfl, hb1⟩
  have hK1 := hK.below hb1 hK.lt
  have hB1 := hB.trans (hb1.mono hB.size)
  obtain ⟨k0, k1, k2, k3, k4, k5, k6, k7⟩ := hK1.eight
  rcases h7 with h7 | ⟨rfl, h7⟩
  · have hl : (lg == 0) = false := by simpa using h7
    clear h7
    go_wp2_with fail
    go_ret
    exact ⟨rfl, hB1⟩
  · rcases Bool.eq_false_or_eq_true (lg == 0) with hl | hl
    · go_wp2_with fail
      go_ret
      exact ⟨rfl, hB1⟩
    · go_wp2_with fail
      go_ret
      exact ⟨rfl, hB1⟩
set_option maxHeartbeats 2000000 in
set_option maxRecDepth 100000 in
theorem refCheck_9 (el at_ : ByteArray) (d : Int) (pe re : ByteArray) (pa : Int) (wo : ByteArray) (w : World) (z1 : (el.size : Int) ≤ 33) (z2 : (at_.size : Int) ≤ 32) (z4 : (pe.size : Int) ≤ 34) (z5 : (re.size : Int) ≤ 16) (z7 : (wo.size : Int) ≤ 16) (p0 : 0 ≤ pa) (p1 : pa ≤ 15)
    (h2 : (el.data.toList.isEmpty || (inK 9 3 12 || inK 9 17 19)) = true) (h3 : (at_.data.toList.isEmpty || inK 9 6 10) = true) (h4 : chkD 9 d = true) (h5 : (pe.data.toList.isEmpty || inK 9 16 19) = true)
    (h6 : (re.data.toList.isEmpty || ((9 : Int) == 0 || ((9 : Int) == 17 || inK 9 9 10))) = true) (h7 : langM 9 (kdM el.data.toList at_.data.toList) ≠ 0 ∨ (pa = 0 ∧ wo.toList.isEmpty = true)) :
    Calls Tryd.prog 14 #[.agg #[.int .i64 9, .string el, .string at_, .int .u8 d, .string pe, .string re, .int .i64 pa, .string wo]] w fun e w' => e = .returned (.int .i64 0) ∧ Below w.heap.size w w' := by
  have cL := hide (lang_9 el at_ d pe re pa wo)
  generalize langM 9 (kdM el.data.toList at_.data.toList) = lg at cL h7
  have hB := (Below.refl w.heap.size w).alloc (Nat.le_refl _) (.cells #[.int .i64 9, .string el, .string at_, .int .u8 d, .string pe, .string re, .int .i64 pa, .string wo] 29)
  have hK := Blk.new w 29 #[.int .i64 9, .string el, .string at_, .int .u8 d, .string pe, .string re, .int .i64 pa, .string wo]
  have q4 : pe.toList.isEmpty = true := by rw [ByteArray.toList_eq]; exact orL h5 (by decide)
  have hd : d = 34 ∨ d = 39 := by
    unfold chkD at h4
    simp at h4
    omega
  clear h2 h3 h4 h5 h6
  rcases hd with rfl | rfl
  · go_enter Tryd.func14, Tryd.ntmps14
    go_wp2_with fail
    generalize w.alloc (.cells #[.int .i64 9, .string el, .string at_, .int .u8 34, .string pe, .string re, .int .i64 pa, .string wo] 29) = W at hK hB ⊢
    refine (cL.out _).mono ?_
    rintro e w1 ⟨rfl, hb1⟩
    have hK1 := hK.below hb1 hK.lt
    have hB1 := hB.trans (hb1.mono hB.size)
    obtain ⟨k0, k1, k2, k3, k4, k5, k6, k7⟩ := hK1.eight
    rcases h7 with h7 | ⟨rfl, h7⟩
    · have hl : (lg == 0) = false := by simpa using h7
      clear h7
      go_wp2_with fail
      go_ret
      exact ⟨rfl, hB1⟩
    · rcases Bool.eq_false_or_eq_true (lg == 0) with hl | hl
      · go_wp2_with fail
        go_ret
        exact ⟨rfl, hB1⟩
      · go_wp2_with fail
        go_ret
        exact ⟨rfl, hB1⟩
  · go_enter Tryd.func14, Tryd.ntmps14
    go_wp2_with fail
    generalize w.alloc (.cells #[.int .i64 9, .string el, .string at_, .int .u8 39, .string pe, .string re, .int .i64 pa, .string wo] 29) = W at hK hB ⊢
    refine (cL.out _).mono ?_
    rintro e w1 ⟨rfl, hb1⟩
    have hK1 := hK.below hb1 hK.lt
    have hB1 := hB.trans (hb1.mono hB.size)
    obtain ⟨k0, k1, k2, k3, k4, k5, k6, k7⟩ := hK1.eight
    rcases h7 with h7 | ⟨rfl, h7⟩
    · have hl : (lg == 0) = false := by simpa using h7
      clear h7
      go_wp2_with fail
      go_ret
      exact ⟨rfl, hB1⟩
    · rcases Bool.eq_false_or_eq_true (lg == 0) with hl | hl
      · go_wp2_with fail
        go_ret
        exact ⟨rfl, hB1⟩
      · go_wp2_with fail
        go_ret
        exact ⟨rfl, hB1⟩
set_option maxHeartbeats 2000000 in
set_option maxRecDepth 100000 in
theorem refCheck_10 (el at_ : ByteArray) (d : Int) (pe re : ByteArray) (pa : Int) (wo : ByteArray) (w : World) (z1 : (el.size : Int) ≤ 33) (z2 : (at_.size : Int) ≤ 32) (z4 : (pe.size : Int) ≤ 34) (z5 : (re.size : Int) ≤ 16) (z7 : (wo.size : Int) ≤ 16) (p0 : 0 ≤ pa) (p1 : pa ≤ 15)
    (h2 : (el.data.toList.isEmpty || (inK 10 3 12 || inK 10 17 19)) = true) (h3 : (at_.data.toList.isEmpty || inK 10 6 10) = true) (h4 : chkD 10 d = true) (h5 : (pe.data.toList.isEmpty || inK 10 16 19) = true)
    (h6 : (re.data.toList.isEmpty || ((10 : Int) == 0 || ((10 : Int) == 17 || inK 10 9 10))) = true) (h7 : langM 10 (kdM el.data.toList at_.data.toList) ≠ 0 ∨ (pa = 0 ∧ wo.toList.isEmpty = true)) :
    Calls Tryd.prog 14 #[.agg #[.int .i64 10, .string el, .string at_, .int .u8 d, .string pe, .string re, .int .i64 pa, .string wo]] w fun e w' => e = .returned (.int .i64 0) ∧ Below w.heap.size w w' := by
  have cL := hide (lang_10 el at_ d pe re pa wo)
  generalize langM 10 (kdM el.data.toList at_.data.toList) = lg at cL h7
  have hB := (Below.refl w.heap.size w).alloc (Nat.le_refl _) (.cells #[.int .i64 10, .string el, .string at_, .int .u8 d, .string pe, .string re, .int .i64 pa, .string wo] 29)
  have hK := Blk.new w 29 #[.int .i64 10, .string el, .string at_, .int .u8 d, .string pe, .string re, .int .i64 pa, .string wo]
  have q4 : pe.toList.isEmpty = true := by rw [ByteArray.toList_eq]; exact orL h5 (by decide)
  have hd : d = 0 := by
    unfold chkD at h4
    simp at h4
    omega
  subst hd
  clear h2 h3 h4 h5 h6
  go_enter Tryd.func14, Tryd.ntmps14
  go_wp2_with fail
  generalize w.alloc (.cells #[.int .i64 10, .string el, .string at_, .int .u8 0, .string pe, .string re, .int .i64 pa, .string wo] 29) = W at hK hB ⊢
  refine (cL.out _).mono ?_
  rintro e w1 ⟨rfl, hb1⟩
  have hK1 := hK.below hb1 hK.lt
  have hB1 := hB.trans (hb1.mono hB.size)
  obtain ⟨k0, k1, k2, k3, k4, k5, k6, k7⟩ := hK1.eight
  rcases h7 with h7 | ⟨rfl, h7⟩
  · have hl : (lg == 0) = false := by simpa using h7
    clear h7
    go_wp2_with fail
    go_ret
    exact ⟨rfl, hB1⟩
  · rcases Bool.eq_false_or_eq_true (lg == 0) with hl | hl
    · go_wp2_with fail
      go_ret
      exact ⟨rfl, hB1⟩
    · go_wp2_with fail
      go_ret
      exact ⟨rfl, hB1⟩
set_option maxHeartbeats 2000000 in
set_option maxRecDepth 100000 in
theorem refCheck_11 (el at_ : ByteArray) (d : Int) (pe re : ByteArray) (pa : Int) (wo : ByteArray) (w : World) (z1 : (el.size : Int) ≤ 33) (z2 : (at_.size : Int) ≤ 32) (z4 : (pe.size : Int) ≤ 34) (z5 : (re.size : Int) ≤ 16) (z7 : (wo.size : Int) ≤ 16) (p0 : 0 ≤ pa) (p1 : pa ≤ 15)
    (h2 : (el.data.toList.isEmpty || (inK 11 3 12 || inK 11 17 19)) = true) (h3 : (at_.data.toList.isEmpty || inK 11 6 10) = true) (h4 : chkD 11 d = true) (h5 : (pe.data.toList.isEmpty || inK 11 16 19) = true)
    (h6 : (re.data.toList.isEmpty || ((11 : Int) == 0 || ((11 : Int) == 17 || inK 11 9 10))) = true) (h7 : langM 11 (kdM el.data.toList at_.data.toList) ≠ 0 ∨ (pa = 0 ∧ wo.toList.isEmpty = true)) :
    Calls Tryd.prog 14 #[.agg #[.int .i64 11, .string el, .string at_, .int .u8 d, .string pe, .string re, .int .i64 pa, .string wo]] w fun e w' => e = .returned (.int .i64 0) ∧ Below w.heap.size w w' := by
  have cL := hide (lang_11 el at_ d pe re pa wo)
  generalize langM 11 (kdM el.data.toList at_.data.toList) = lg at cL h7
  have hB := (Below.refl w.heap.size w).alloc (Nat.le_refl _) (.cells #[.int .i64 11, .string el, .string at_, .int .u8 d, .string pe, .string re, .int .i64 pa, .string wo] 29)
  have hK := Blk.new w 29 #[.int .i64 11, .string el, .string at_, .int .u8 d, .string pe, .string re, .int .i64 pa, .string wo]
  have q2 : at_.toList.isEmpty = true := by rw [ByteArray.toList_eq]; exact orL h3 (by decide)
  have q4 : pe.toList.isEmpty = true := by rw [ByteArray.toList_eq]; exact orL h5 (by decide)
  have q5 : re.toList.isEmpty = true := by rw [ByteArray.toList_eq]; exact orL h6 (by decide)
  have hd : d = 0 := by
    unfold chkD at h4
    simp at h4
    omega
  subst hd
  clear h2 h3 h4 h5 h6
  go_enter Tryd.func14, Tryd.ntmps14
  go_wp2_with fail
  generalize w.alloc (.cells #[.int .i64 11, .string el, .string at_, .int .u8 0, .string pe, .string re, .int .i64 pa, .string wo] 29) = W at hK hB ⊢
  refine (cL.out _).mono ?_
  rintro e w1 ⟨rfl, hb1⟩
  have hK1 := hK.below hb1 hK.lt
  have hB1 := hB.trans (hb1.mono hB.size)
  obtain ⟨k0, k1, k2, k3, k4, k5, k6, k7⟩ := hK1.eight
  rcases h7 with h7 | ⟨rfl, h7⟩
  · have hl : (lg == 0) = false := by simpa using h7
    clear h7
    go_wp2_with fail
    go_ret
    exact ⟨rfl, hB1⟩
  · rcases Bool.eq_false_or_eq_true (lg == 0) with hl | hl
    · go_wp2_with fail
      go_ret
      exact ⟨rfl, hB1⟩
    · go_wp2_with fail
      go_ret
      exact ⟨rfl, hB1⟩
set_option maxHeartbeats 2000000 in
set_option maxRecDepth 100000 in
theorem refCheck_12 (el at_ : ByteArray) (d : Int) (pe re : ByteArray) (pa : Int) (wo : ByteArray) (w : World) (z1 : (el.size : Int) ≤ 33) (z2 : (at_.size : Int) ≤ 32) (z4 : (pe.size : Int) ≤ 34) (z5 : (re.size : Int) ≤ 16) (z7 : (wo.size : Int) ≤ 16) (p0 : 0 ≤ pa) (p1 : pa ≤ 15)
    (h2 : (el.data.toList.isEmpty || (inK 12 3 12 || inK 12 17 19)) = true) (h3 : (at_.data.toList.isEmpty || inK 12 6 10) = true) (h4 : chkD 12 d = true) (h5 : (pe.data.toList.isEmpty || inK 12 16 19) = true)
    (h6 : (re.data.toList.isEmpty || ((12 : Int) == 0 || ((12 : Int) == 17 || inK 12 9 10))) = true) (h7 : langM 12 (kdM el.data.toList at_.data.toList) ≠ 0 ∨ (pa = 0 ∧ wo.toList.isEmpty = true)) :
    Calls Tryd.prog 14 #[.agg #[.int .i64 12, .string el, .string at_, .int .u8 d, .string pe, .string re, .int .i64 pa, .string wo]] w fun e w' => e = .returned (.int .i64 0) ∧ Below w.heap.size w w' := by
  have cL := hide (lang_12 el at_ d pe re pa wo)
  generalize langM 12 (kdM el.data.toList at_.data.toList) = lg at cL h7
  have hB := (Below.refl w.heap.size w).alloc (Nat.le_refl _) (.cells #[.int .i64 12, .string el, .string at_, .int .u8 d, .string pe, .string re, .int .i64 pa, .string wo] 29)
  have hK := Blk.new w 29 #[.int .i64 12, .string el, .string at_, .int .u8 d, .string pe, .string re, .int .i64 pa, .string wo]
  have q2 : at_.toList.isEmpty = true := by rw [ByteArray.toList_eq]; exact orL h3 (by decide)
  have q4 : pe.toList.isEmpty = true := by rw [ByteArray.toList_eq]; exact orL h5 (by decide)
  have q5 : re.toList.isEmpty = true := by rw [ByteArray.toList_eq]; exact orL h6 (by decide)
  have hd : d = 0 := by
    unfold chkD at h4
    simp at h4
    omega
  subst hd
  clear h2 h3 h4 h5 h6
  go_enter Tryd.func14, Tryd.ntmps14
  go_wp2_with fail
  generalize w.alloc (.cells #[.int .i64 12, .string el, .string at_, .int .u8 0, .string pe, .string re, .int .i64 pa, .string wo] 29) = W at hK hB ⊢
  refine (cL.out _).mono ?_
  rintro e w1 ⟨rfl, hb1⟩
  have hK1 := hK.below hb1 hK.lt
  have hB1 := hB.trans (hb1.mono hB.size)
  obtain ⟨k0, k1, k2, k3, k4, k5, k6, k7⟩ := hK1.eight
  rcases h7 with h7 | ⟨rfl, h7⟩
  · have hl : (lg == 0) = false := by simpa using h7
    clear h7
    go_wp2_with fail
    go_ret
    exact ⟨rfl, hB1⟩
  · rcases Bool.eq_false_or_eq_true (lg == 0) with hl | hl
    · go_wp2_with fail
      go_ret
      exact ⟨rfl, hB1⟩
    · go_wp2_with fail
      go_ret
      exact ⟨rfl, hB1⟩
set_option maxHeartbeats 2000000 in
set_option maxRecDepth 100000 in
theorem refCheck_13 (el at_ : ByteArray) (d : Int) (pe re : ByteArray) (pa : Int) (wo : ByteArray) (w : World) (z1 : (el.size : Int) ≤ 33) (z2 : (at_.size : Int) ≤ 32) (z4 : (pe.size : Int) ≤ 34) (z5 : (re.size : Int) ≤ 16) (z7 : (wo.size : Int) ≤ 16) (p0 : 0 ≤ pa) (p1 : pa ≤ 15)
    (h2 : (el.data.toList.isEmpty || (inK 13 3 12 || inK 13 17 19)) = true) (h3 : (at_.data.toList.isEmpty || inK 13 6 10) = true) (h4 : chkD 13 d = true) (h5 : (pe.data.toList.isEmpty || inK 13 16 19) = true)
    (h6 : (re.data.toList.isEmpty || ((13 : Int) == 0 || ((13 : Int) == 17 || inK 13 9 10))) = true) (h7 : langM 13 (kdM el.data.toList at_.data.toList) ≠ 0 ∨ (pa = 0 ∧ wo.toList.isEmpty = true)) :
    Calls Tryd.prog 14 #[.agg #[.int .i64 13, .string el, .string at_, .int .u8 d, .string pe, .string re, .int .i64 pa, .string wo]] w fun e w' => e = .returned (.int .i64 0) ∧ Below w.heap.size w w' := by
  have cL := hide (lang_13 el at_ d pe re pa wo)
  generalize langM 13 (kdM el.data.toList at_.data.toList) = lg at cL h7
  have hB := (Below.refl w.heap.size w).alloc (Nat.le_refl _) (.cells #[.int .i64 13, .string el, .string at_, .int .u8 d, .string pe, .string re, .int .i64 pa, .string wo] 29)
  have hK := Blk.new w 29 #[.int .i64 13, .string el, .string at_, .int .u8 d, .string pe, .string re, .int .i64 pa, .string wo]
  have q1 : el.toList.isEmpty = true := by rw [ByteArray.toList_eq]; exact orL h2 (by decide)
  have q2 : at_.toList.isEmpty = true := by rw [ByteArray.toList_eq]; exact orL h3 (by decide)
  have q4 : pe.toList.isEmpty = true := by rw [ByteArray.toList_eq]; exact orL h5 (by decide)
  have q5 : re.toList.isEmpty = true := by rw [ByteArray.toList_eq]; exact orL h6 (by decide)
  have hd : d = 0 := by
    unfold chkD at h4
    simp at h4
    omega
  subst hd
  clear h2 h3 h4 h5 h6
  go_enter Tryd.func14, Tryd.ntmps14
  go_wp2_with fail
  generalize w.alloc (.cells #[.int .i64 13, .string el, .string at_, .int .u8 0, .string pe, .string re, .int .i64 pa, .string wo] 29) = W at hK hB ⊢
  refine (cL.out _).mono ?_
  rintro e w1 ⟨rfl, hb1⟩
  have hK1 := hK.below hb1 hK.lt
  have hB1 := hB.trans (hb1.mono hB.size)
  obtain ⟨k0, k1, k2, k3, k4, k5, k6, k7⟩ := hK1.eight
  rcases h7 with h7 | ⟨rfl, h7⟩
  · have hl : (lg == 0) = false := by simpa using h7
    clear h7
    go_wp2_with fail
    go_ret
    exact ⟨rfl, hB1⟩
  · rcases Bool.eq_false_or_eq_true (lg == 0) with hl | hl
    · go_wp2_with fail
      go_ret
      exact ⟨rfl, hB1⟩
    · go_wp2_with fail
      go_ret
      exact ⟨rfl, hB1⟩
set_option maxHeartbeats 2000000 in
set_option maxRecDepth 100000 in
theorem refCheck_14 (el at_ : ByteArray) (d : Int) (pe re : ByteArray) (pa : Int) (wo : ByteArray) (w : World) (z1 : (el.size : Int) ≤ 33) (z2 : (at_.size : Int) ≤ 32) (z4 : (pe.size : Int) ≤ 34) (z5 : (re.size : Int) ≤ 16) (z7 : (wo.size : Int) ≤ 16) (p0 : 0 ≤ pa) (p1 : pa ≤ 15)
    (h2 : (el.data.toList.isEmpty || (inK 14 3 12 || inK 14 17 19)) = true) (h3 : (at_.data.toList.isEmpty || inK 14 6 10) = true) (h4 : chkD 14 d = true) (h5 : (pe.data.toList.isEmpty || inK 14 16 19) = true)
    (h6 : (re.data.toList.isEmpty || ((14 : Int) == 0 || ((14 : Int) == 17 || inK 14 9 10))) = true) (h7 : langM 14 (kdM el.data.toList at_.data.toList) ≠ 0 ∨ (pa = 0 ∧ wo.toList.isEmpty = true)) :
    Calls Tryd.prog 14 #[.agg #[.int .i64 14, .string el, .string at_, .int .u8 d, .string pe, .string re, .int .i64 pa, .string wo]] w fun e w' => e = .returned (.int .i64 0) ∧ Below w.heap.size w w' := by
  have cL := hide (lang_14 el at_ d pe re pa wo)
  generalize langM 14 (kdM el.data.toList at_.data.toList) = lg at cL h7
  have hB := (Below.refl w.heap.size w).alloc (Nat.le_refl _) (.cells #[.int .i64 14, .string el, .string at_, .int .u8 d, .string pe, .string re, .int .i64 pa, .string wo] 29)
  have hK := Blk.new w 29 #[.int .i64 14, .string el, .string at_, .int .u8 d, .string pe, .string re, .int .i64 pa, .string wo]
  have q1 : el.toList.isEmpty = true := by rw [ByteArray.toList_eq]; exact orL h2 (by decide)
  have q2 : at_.toList.isEmpty = true := by rw [ByteArray.toList_eq]; exact orL h3 (by decide)
  have q4 : pe.toList.isEmpty = true := by rw [ByteArray.toList_eq]; exact orL h5 (by decide)
  have q5 : re.toList.isEmpty = true := by rw [ByteArray.toList_eq]; exact orL h6 (by decide)
  have hd : d = 0 := by
    unfold chkD at h4
    simp at h4
    omega
  subst hd
  clear h2 h3 h4 h5 h6
  go_enter Tryd.func14, Tryd.ntmps14
  go_wp2_with fail
  generalize w.alloc (.cells #[.int .i64 14, .string el, .string at_, .int .u8 0, .string pe, .string re, .int .i64 pa, .string wo] 29) = W at hK hB ⊢
  refine (cL.out _).mono ?_
  rintro e w1 ⟨rfl, hb1⟩
  have hK1 := hK.below hb1 hK.lt
  have hB1 := hB.trans (hb1.mono hB.size)
  obtain ⟨k0, k1, k2, k3, k4, k5, k6, k7⟩ := hK1.eight
  rcases h7 with h7 | ⟨rfl, h7⟩
  · have hl : (lg == 0) = false := by simpa using h7
    clear h7
    go_wp2_with fail
    go_ret
    exact ⟨rfl, hB1⟩
  · rcases Bool.eq_false_or_eq_true (lg == 0) with hl | hl
    · go_wp2_with fail
      go_ret
      exact ⟨rfl, hB1⟩
    · go_wp2_with fail
      go_ret
      exact ⟨rfl, hB1⟩
set_option maxHeartbeats 2000000 in
set_option maxRecDepth 100000 in
theorem refCheck_15 (el at_ : ByteArray) (d : Int) (pe re : ByteArray) (pa : Int) (wo : ByteArray) (w : World) (z1 : (el.size : Int) ≤ 33) (z2 : (at_.size : Int) ≤ 32) (z4 : (pe.size : Int) ≤ 34) (z5 : (re.size : Int) ≤ 16) (z7 : (wo.size : Int) ≤ 16) (p0 : 0 ≤ pa) (p1 : pa ≤ 15)
    (h2 : (el.data.toList.isEmpty || (inK 15 3 12 || inK 15 17 19)) = true) (h3 : (at_.data.toList.isEmpty || inK 15 6 10) = true) (h4 : chkD 15 d = true) (h5 : (pe.data.toList.isEmpty || inK 15 16 19) = true)
    (h6 : (re.data.toList.isEmpty || ((15 : Int) == 0 || ((15 : Int) == 17 || inK 15 9 10))) = true) (h7 : langM 15 (kdM el.data.toList at_.data.toList) ≠ 0 ∨ (pa = 0 ∧ wo.toList.isEmpty = true)) :
    Calls Tryd.prog 14 #[.agg #[.int .i64 15, .string el, .string at_, .int .u8 d, .string pe, .string re, .int .i64 pa, .string wo]] w fun e w' => e = .returned (.int .i64 0) ∧ Below w.heap.size w w' := by
  have cL := hide (lang_15 el at_ d pe re pa wo)
  generalize langM 15 (kdM el.data.toList at_.data.toList) = lg at cL h7
  have hB := (Below.refl w.heap.size w).alloc (Nat.le_refl _) (.cells #[.int .i64 15, .string el, .string at_, .int .u8 d, .string pe, .string re, .int .i64 pa, .string wo] 29)
  have hK := Blk.new w 29 #[.int .i64 15, .string el, .string at_, .int .u8 d, .string pe, .string re, .int .i64 pa, .string wo]
  have q1 : el.toList.isEmpty = true := by rw [ByteArray.toList_eq]; exact orL h2 (by decide)
  have q2 : at_.toList.isEmpty = true := by rw [ByteArray.toList_eq]; exact orL h3 (by decide)
  have q4 : pe.toList.isEmpty = true := by rw [ByteArray.toList_eq]; exact orL h5 (by decide)
  have q5 : re.toList.isEmpty = true := by rw [ByteArray.toList_eq]; exact orL h6 (by decide)
  have hd : d = 0 := by
    unfold chkD at h4
    simp at h4
    omega
  subst hd
  clear h2 h3 h4 h5 h6
  go_enter Tryd.func14, Tryd.ntmps14
  go_wp2_with fail
  generalize w.alloc (.cells #[.int .i64 15, .string el, .string at_, .int .u8 0, .string pe, .string re, .int .i64 pa, .string wo] 29) = W at hK hB ⊢
  refine (cL.out _).mono ?_
  rintro e w1 ⟨rfl, hb1⟩
  have hK1 := hK.below hb1 hK.lt
  have hB1 := hB.trans (hb1.mono hB.size)
  obtain ⟨k0, k1, k2, k3, k4, k5, k6, k7⟩ := hK1.eight
  rcases h7 with h7 | ⟨rfl, h7⟩
  · have hl : (lg == 0) = false := by simpa using h7
    clear h7
    go_wp2_with fail
    go_ret
    exact ⟨rfl, hB1⟩
  · rcases Bool.eq_false_or_eq_true (lg == 0) with hl | hl
    · go_wp2_with fail
      go_ret
      exact ⟨rfl, hB1⟩
    · go_wp2_with fail
      go_ret
      exact ⟨rfl, hB1⟩
set_option maxHeartbeats 2000000 in
set_option maxRecDepth 100000 in
theorem refCheck_16 (el at_ : ByteArray) (d : Int) (pe re : ByteArray) (pa : Int) (wo : ByteArray) (w : World) (z1 : (el.size : Int) ≤ 33) (z2 : (at_.size : Int) ≤ 32) (z4 : (pe.size : Int) ≤ 34) (z5 : (re.size : Int) ≤ 16) (z7 : (wo.size : Int) ≤ 16) (p0 : 0 ≤ pa) (p1 : pa ≤ 15)
    (h2 : (el.data.toList.isEmpty || (inK 16 3 12 || inK 16 17 19)) = true) (h3 : (at_.data.toList.isEmpty || inK 16 6 10) = true) (h4 : chkD 16 d = true) (h5 : (pe.data.toList.isEmpty || inK 16 16 19) = true)
    (h6 : (re.data.toList.isEmpty || ((16 : Int) == 0 || ((16 : Int) == 17 || inK 16 9 10))) = true) (h7 : langM 16 (kdM el.data.toList at_.data.toList) ≠ 0 ∨ (pa = 0 ∧ wo.toList.isEmpty = true)) :
    Calls Tryd.prog 14 #[.agg #[.int .i64 16, .string el, .string at_, .int .u8 d, .string pe, .string re, .int .i64 pa, .string wo]] w fun e w' => e = .returned (.int .i64 0) ∧ Below w.heap.size w w' := by
  have cL := hide (lang_16 el at_ d pe re pa wo)
  generalize langM 16 (kdM el.data.toList at_.data.toList) = lg at cL h7
  have hB := (Below.refl w.heap.size w).alloc (Nat.le_refl _) (.cells #[.int .i64 16, .string el, .string at_, .int .u8 d, .string pe, .string re, .int .i64 pa, .string wo] 29)
  have hK := Blk.new w 29 #[.int .i64 16, .string el, .string at_, .int .u8 d, .string pe, .string re, .int .i64 pa, .string wo]
  have q1 : el.toList.isEmpty = true := by rw [ByteArray.toList_eq]; exact orL h2 (by decide)
  have q2 : at_.toList.isEmpty = true := by rw [ByteArray.toList_eq]; exact orL h3 (by decide)
  have q5 : re.toList.isEmpty = true := by rw [ByteArray.toList_eq]; exact orL h6 (by decide)
  have hd : d = 0 := by
    unfold chkD at h4
    simp at h4
    omega
  subst hd
  clear h2 h3 h4 h5 h6
  go_enter Tryd.func14, Tryd.ntmps14
  go_wp2_with fail
  generalize w.alloc (.cells #[.int .i64 16, .string el, .string at_, .int .u8 0, .string pe, .string re, .int .i64 pa, .string wo] 29) = W at hK hB ⊢
  refine (cL.out _).mono ?_
  rintro e w1 ⟨rfl, hb1⟩
  have hK1 := hK.below hb1 hK.lt
  have hB1 := hB.trans (hb1.mono hB.size)
  obtain ⟨k0, k1, k2, k3, k4, k5, k6, k7⟩ := hK1.eight
  rcases h7 with h7 | ⟨rfl, h7⟩
  · have hl : (lg == 0) = false := by simpa using h7
    clear h7
    go_wp2_with fail
    go_ret
    exact ⟨rfl, hB1⟩
  · rcases Bool.eq_false_or_eq_true (lg == 0) with hl | hl
    · go_wp2_with fail
      go_ret
      exact ⟨rfl, hB1⟩
    · go_wp2_with fail
      go_ret
      exact ⟨rfl, hB1⟩
set_option maxHeartbeats 2000000 in
set_option maxRecDepth 100000 in
theorem refCheck_17 (el at_ : ByteArray) (d : Int) (pe re : ByteArray) (pa : Int) (wo : ByteArray) (w : World) (z1 : (el.size : Int) ≤ 33) (z2 : (at_.size : Int) ≤ 32) (z4 : (pe.size : Int) ≤ 34) (z5 : (re.size : Int) ≤ 16) (z7 : (wo.size : Int) ≤ 16) (p0 : 0 ≤ pa) (p1 : pa ≤ 15)
    (h2 : (el.data.toList.isEmpty || (inK 17 3 12 || inK 17 17 19)) = true) (h3 : (at_.data.toList.isEmpty || inK 17 6 10) = true) (h4 : chkD 17 d = true) (h5 : (pe.data.toList.isEmpty || inK 17 16 19) = true)
    (h6 : (re.data.toList.isEmpty || ((17 : Int) == 0 || ((17 : Int) == 17 || inK 17 9 10))) = true) (h7 : langM 17 (kdM el.data.toList at_.data.toList) ≠ 0 ∨ (pa = 0 ∧ wo.toList.isEmpty = true)) :
    Calls Tryd.prog 14 #[.agg #[.int .i64 17, .string el, .string at_, .int .u8 d, .string pe, .string re, .int .i64 pa, .string wo]] w fun e w' => e = .returned (.int .i64 0) ∧ Below w.heap.size w w' := by
  have cL := hide (lang_17 el at_ d pe re pa wo)
  generalize langM 17 (kdM el.data.toList at_.data.toList) = lg at cL h7
  have hB := (Below.refl w.heap.size w).alloc (Nat.le_refl _) (.cells #[.int .i64 17, .string el, .string at_, .int .u8 d, .string pe, .string re, .int .i64 pa, .string wo] 29)
  have hK := Blk.new w 29 #[.int .i64 17, .string el, .string at_, .int .u8 d, .string pe, .string re, .int .i64 pa, .string wo]
  have q2 : at_.toList.isEmpty = true := by rw [ByteArray.toList_eq]; exact orL h3 (by decide)
  have hd : d = 0 := by
    unfold chkD at h4
    simp at h4
    omega
  subst hd
  clear h2 h3 h4 h5 h6
  go_enter Tryd.func14, Tryd.ntmps14
  go_wp2_with fail
  generalize w.alloc (.cells #[.int .i64 17, .string el, .string at_, .int .u8 0, .string pe, .string re, .int .i64 pa, .string wo] 29) = W at hK hB ⊢
  refine (cL.out _).mono ?_
  rintro e w1 ⟨rfl, hb1⟩
  have hK1 := hK.below hb1 hK.lt
  have hB1 := hB.trans (hb1.mono hB.size)
  obtain ⟨k0, k1, k2, k3, k4, k5, k6, k7⟩ := hK1.eight
  rcases h7 with h7 | ⟨rfl, h7⟩
  · have hl : (lg == 0) = false := by simpa using h7
    clear h7
    go_wp2_with fail
    go_ret
    exact ⟨rfl, hB1⟩
  · rcases Bool.eq_false_or_eq_true (lg == 0) with hl | hl
    · go_wp2_with fail
      go_ret
      exact ⟨rfl, hB1⟩
    · go_wp2_with fail
      go_ret
      exact ⟨rfl, hB1⟩
set_option maxHeartbeats 2000000 in
set_option maxRecDepth 100000 in
theorem refCheck_18 (el at_ : ByteArray) (d : Int) (pe re : ByteArray) (pa : Int) (wo : ByteArray) (w : World) (z1 : (el.size : Int) ≤ 33) (z2 : (at_.size : Int) ≤ 32) (z4 : (pe.size : Int) ≤ 34) (z5 : (re.size : Int) ≤ 16) (z7 : (wo.size : Int) ≤ 16) (p0 : 0 ≤ pa) (p1 : pa ≤ 15)
    (h2 : (el.data.toList.isEmpty || (inK 18 3 12 || inK 18 17 19)) = true) (h3 : (at_.data.toList.isEmpty || inK 18 6 10) = true) (h4 : chkD 18 d = true) (h5 : (pe.data.toList.isEmpty || inK 18 16 19) = true)
    (h6 : (re.data.toList.isEmpty || ((18 : Int) == 0 || ((18 : Int) == 17 || inK 18 9 10))) = true) (h7 : langM 18 (kdM el.data.toList at_.data.toList) ≠ 0 ∨ (pa = 0 ∧ wo.toList.isEmpty = true)) :
    Calls Tryd.prog 14 #[.agg #[.int .i64 18, .string el, .string at_, .int .u8 d, .string pe, .string re, .int .i64 pa, .string wo]] w fun e w' => e = .returned (.int .i64 0) ∧ Below w.heap.size w w' := by
  have cL := hide (lang_18 el at_ d pe re pa wo)
  generalize langM 18 (kdM el.data.toList at_.data.toList) = lg at cL h7
  have hB := (Below.refl w.heap.size w).alloc (Nat.le_refl _) (.cells #[.int .i64 18, .string el, .string at_, .int .u8 d, .string pe, .string re, .int .i64 pa, .string wo] 29)
  have hK := Blk.new w 29 #[.int .i64 18, .string el, .string at_, .int .u8 d, .string pe, .string re, .int .i64 pa, .string wo]
  have q2 : at_.toList.isEmpty = true := by rw [ByteArray.toList_eq]; exact orL h3 (by decide)
  have q5 : re.toList.isEmpty = true := by rw [ByteArray.toList_eq]; exact orL h6 (by decide)
  have hd : d = 0 := by
    unfold chkD at h4
    simp at h4
    omega
  subst hd
  clear h2 h3 h4 h5 h6
  go_enter Tryd.func14, Tryd.ntmps14
  go_wp2_with fail
  generalize w.alloc (.cells #[.int .i64 18, .string el, .string at_, .int .u8 0, .string pe, .string re, .int .i64 pa, .string wo] 29) = W at hK hB ⊢
  refine (cL.out _).mono ?_
  rintro e w1 ⟨rfl, hb1⟩
  have hK1 := hK.below hb1 hK.lt
  have hB1 := hB.trans (hb1.mono hB.size)
  obtain ⟨k0, k1, k2, k3, k4, k5, k6, k7⟩ := hK1.eight
  rcases h7 with h7 | ⟨rfl, h7⟩
  · have hl : (lg == 0) = false := by simpa using h7
    clear h7
    go_wp2_with fail
    go_ret
    exact ⟨rfl, hB1⟩
  · rcases Bool.eq_false_or_eq_true (lg == 0) with hl | hl
    · go_wp2_with fail
      go_ret
      exact ⟨rfl, hB1⟩
    · go_wp2_with fail
      go_ret
      exact ⟨rfl, hB1⟩
set_option maxHeartbeats 2000000 in
set_option maxRecDepth 100000 in
theorem refCheck_19 (el at_ : ByteArray) (d : Int) (pe re : ByteArray) (pa : Int) (wo : ByteArray) (w : World) (z1 : (el.size : Int) ≤ 33) (z2 : (at_.size : Int) ≤ 32) (z4 : (pe.size : Int) ≤ 34) (z5 : (re.size : Int) ≤ 16) (z7 : (wo.size : Int) ≤ 16) (p0 : 0 ≤ pa) (p1 : pa ≤ 15)
    (h2 : (el.data.toList.isEmpty || (inK 19 3 12 || inK 19 17 19)) = true) (h3 : (at_.data.toList.isEmpty || inK 19 6 10) = true) (h4 : chkD 19 d = true) (h5 : (pe.data.toList.isEmpty || inK 19 16 19) = true)
    (h6 : (re.data.toList.isEmpty || ((19 : Int) == 0 || ((19 : Int) == 17 || inK 19 9 10))) = true) (h7 : langM 19 (kdM el.data.toList at_.data.toList) ≠ 0 ∨ (pa = 0 ∧ wo.toList.isEmpty = true)) :
    Calls Tryd.prog 14 #[.agg #[.int .i64 19, .string el, .string at_, .int .u8 d, .string pe, .string re, .int .i64 pa, .string wo]] w fun e w' => e = .returned (.int .i64 0) ∧ Below w.heap.size w w' := by
  have cL := hide (lang_19 el at_ d pe re pa wo)
  generalize langM 19 (kdM el.data.toList at_.data.toList) = lg at cL h7
  have hB := (Below.refl w.heap.size w).alloc (Nat.le_refl _) (.cells #[.int .i64 19, .string el, .string at_, .int .u8 d, .string pe, .string re, .int .i64 pa, .string wo] 29)
  have hK := Blk.new w 29 #[.int .i64 19, .string el, .string at_, .int .u8 d, .string pe, .string re, .int .i64 pa, .string wo]
  have q2 : at_.toList.isEmpty = true := by rw [ByteArray.toList_eq]; exact orL h3 (by decide)
  have q5 : re.toList.isEmpty = true := by rw [ByteArray.toList_eq]; exact orL h6 (by decide)
  have hd : d = 0 := by
    unfold chkD at h4
    simp at h4
    omega
  subst hd
  clear h2 h3 h4 h5 h6
  go_enter Tryd.func14, Tryd.ntmps14
  go_wp2_with fail
  generalize w.alloc (.cells #[.int .i64 19, .string el, .string at_, .int .u8 0, .string pe, .string re, .int .i64 pa, .string wo] 29) = W at hK hB ⊢
  refine (cL.out _).mono ?_
  rintro e w1 ⟨rfl, hb1⟩
  have hK1 := hK.below hb1 hK.lt
  have hB1 := hB.trans (hb1.mono hB.size)
  obtain ⟨k0, k1, k2, k3, k4, k5, k6, k7⟩ := hK1.eight
  rcases h7 with h7 | ⟨rfl, h7⟩
  · have hl : (lg == 0) = false := by simpa using h7
    clear h7
    go_wp2_with fail
    go_ret
    exact ⟨rfl, hB1⟩
  · rcases Bool.eq_false_or_eq_true (lg == 0) with hl | hl
    · go_wp2_with fail
      go_ret
      exact ⟨rfl, hB1⟩
    · go_wp2_with fail
      go_ret
      exact ⟨rfl, hB1⟩
theorem refCheck_any (s : StV) (hc : s.chk = 0) (w : World) : Calls Tryd.prog 14 #[.agg #[.int .i64 s.k, .string s.el, .string s.at_, .int .u8 s.d, .string s.pe, .string s.re, .int .i64 s.pa, .string s.wo]] w fun e w' => e = .returned (.int .i64 0) ∧ Below w.heap.size w w' := by
  obtain ⟨k, el, at_, d, pe, re, pa, wo⟩ := s
  show Calls Tryd.prog 14 #[.agg #[.int .i64 k, .string el, .string at_, .int .u8 d, .string pe, .string re, .int .i64 pa, .string wo]] w _
  unfold StV.chk chkM at hc
  simp only at hc
  have hk : inK k 0 19 = true := by
    rcases Bool.eq_false_or_eq_true (inK k 0 19) with h | h
    · exact h
    · rw [h, Bool.not_false, if_pos rfl] at hc; exact absurd hc (by decide)
  rw [hk] at hc
  simp only [Bool.not_true, Bool.false_eq_true, if_false] at hc
  have hb : ∀ b : Bool, chkOf b = 0 → b = true := by intro b h; cases b <;> first | rfl | exact absurd h (by decide)
  have h := hb _ hc
  simp only [Bool.and_eq_true] at h
  obtain ⟨⟨⟨⟨⟨⟨h1, h2⟩, h3⟩, h4⟩, h5⟩, h6⟩, h7⟩ := h
  unfold chk1 at h1
  simp only [Bool.and_eq_true, decide_eq_true_eq] at h1
  obtain ⟨z1, z2, z4, z5, z7, p0, p1⟩ := h1
  rw [size_list] at z1 z2 z4 z5 z7
  have h8 : langM k (kdM el.data.toList at_.data.toList) ≠ 0 ∨ (pa = 0 ∧ wo.toList.isEmpty = true) := by
    by_cases hl : langM k (kdM el.data.toList at_.data.toList) = 0
    · have hs := lang_sub k _ _ hl
      rw [hs, Bool.false_or, Bool.and_eq_true, beq_iff_eq] at h7
      exact .inr ⟨h7.1, by rw [ByteArray.toList_eq]; exact h7.2⟩
    · exact .inl hl
  have hkr : 0 ≤ k ∧ k ≤ 19 := by unfold inK at hk; simpa using hk
  have hkc : k = 0 ∨ k = 1 ∨ k = 2 ∨ k = 3 ∨ k = 4 ∨ k = 5 ∨ k = 6 ∨ k = 7 ∨ k = 8 ∨ k = 9 ∨ k = 10 ∨ k = 11 ∨ k = 12 ∨ k = 13 ∨ k = 14 ∨ k = 15 ∨ k = 16 ∨ k = 17 ∨ k = 18 ∨ k = 19 := by omega
  rcases hkc with rfl | rfl | rfl | rfl | rfl | rfl | rfl | rfl | rfl | rfl | rfl | rfl | rfl | rfl | rfl | rfl | rfl | rfl | rfl | rfl
  · exact refCheck_0 el at_ d pe re pa wo w (by omega) (by omega) (by omega) (by omega) (by omega) p0 p1 h2 h3 h4 h5 h6 h8
  · exact refCheck_1 el at_ d pe re pa wo w (by omega) (by omega) (by omega) (by omega) (by omega) p0 p1 h2 h3 h4 h5 h6 h8
  · exact refCheck_2 el at_ d pe re pa wo w (by omega) (by omega) (by omega) (by omega) (by omega) p0 p1 h2 h3 h4 h5 h6 h8
  · exact refCheck_3 el at_ d pe re pa wo w (by omega) (by omega) (by omega) (by omega) (by omega) p0 p1 h2 h3 h4 h5 h6 h8
  · exact refCheck_4 el at_ d pe re pa wo w (by omega) (by omega) (by omega) (by omega) (by omega) p0 p1 h2 h3 h4 h5 h6 h8
  · exact refCheck_5 el at_ d pe re pa wo w (by omega) (by omega) (by omega) (by omega) (by omega) p0 p1 h2 h3 h4 h5 h6 h8
  · exact refCheck_6 el at_ d pe re pa wo w (by omega) (by omega) (by omega) (by omega) (by omega) p0 p1 h2 h3 h4 h5 h6 h8
  · exact refCheck_7 el at_ d pe re pa wo w (by omega) (by omega) (by omega) (by omega) (by omega) p0 p1 h2 h3 h4 h5 h6 h8
  · exact refCheck_8 el at_ d pe re pa wo w (by omega) (by omega) (by omega) (by omega) (by omega) p0 p1 h2 h3 h4 h5 h6 h8
  · exact refCheck_9 el at_ d pe re pa wo w (by omega) (by omega) (by omega) (by omega) (by omega) p0 p1 h2 h3 h4 h5 h6 h8
  · exact refCheck_10 el at_ d pe re pa wo w (by omega) (by omega) (by omega) (by omega) (by omega) p0 p1 h2 h3 h4 h5 h6 h8
  · exact refCheck_11 el at_ d pe re pa wo w (by omega) (by omega) (by omega) (by omega) (by omega) p0 p1 h2 h3 h4 h5 h6 h8
  · exact refCheck_12 el at_ d pe re pa wo w (by omega) (by omega) (by omega) (by omega) (by omega) p0 p1 h2 h3 h4 h5 h6 h8
  · exact refCheck_13 el at_ d pe re pa wo w (by omega) (by omega) (by omega) (by omega) (by omega) p0 p1 h2 h3 h4 h5 h6 h8
  · exact refCheck_14 el at_ d pe re pa wo w (by omega) (by omega) (by omega) (by omega) (by omega) p0 p1 h2 h3 h4 h5 h6 h8
  · exact refCheck_15 el at_ d pe re pa wo w (by omega) (by omega) (by omega) (by omega) (by omega) p0 p1 h2 h3 h4 h5 h6 h8
  · exact refCheck_16 el at_ d pe re pa wo w (by omega) (by omega) (by omega) (by omega) (by omega) p0 p1 h2 h3 h4 h5 h6 h8
  · exact refCheck_17 el at_ d pe re pa wo w (by omega) (by omega) (by omega) (by omega) (by omega) p0 p1 h2 h3 h4 h5 h6 h8
  · exact refCheck_18 el at_ d pe re pa wo w (by omega) (by omega) (by omega) (by omega) (by omega) p0 p1 h2 h3 h4 h5 h6 h8
  · exact refCheck_19 el at_ d pe re pa wo w (by omega) (by omega) (by omega) (by omega) (by omega) p0 p1 h2 h3 h4 h5 h6 h8
end Go.Proofs.YtlandmahjdaphaaDoor
