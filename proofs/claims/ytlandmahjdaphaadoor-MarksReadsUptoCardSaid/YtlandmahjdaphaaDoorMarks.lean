/-
  package marks: in, sub, Kind, Check: may a state be?
-/
import Derived.Test.YtlandmahjdaphaaDoorAttr
import Derived.Test.YtlandmahjdaphaaDoorMem
import Derived.Test.YtlandmahjdaphaaDoorDec
import Derived.Deep.DeepCutAuto
namespace Go.Proofs.YtlandmahjdaphaaDoor
open Go.RowKit
set_option linter.unusedVariables false
set_option linter.unusedSimpArgs false

def inK (k f t : Int) : Bool := decide (f ≤ k) && decide (k ≤ t)
section
variable (k : Int) (el at_ : ByteArray) (d : Int) (pe re : ByteArray) (pa : Int) (wo : ByteArray)

set_option maxHeartbeats 400000 in
theorem in_any (f t : Int) (w : World) : Calls Tryd.prog 42 #[.agg #[.int .i64 k, .string el, .string at_, .int .u8 d, .string pe, .string re, .int .i64 pa, .string wo], .int .i64 f, .int .i64 t] w fun e w' => e = .returned (.bool (inK k f t)) ∧ Below w.heap.size w w' := by
  unfold inK
  by_cases h1 : f ≤ k
  · obtain ⟨b, hb⟩ : ∃ b, decide (k ≤ t) = b := ⟨_, rfl⟩
    rw [hb, show decide (f ≤ k) = true by simpa using h1]
    go_enter Tryd.func42, Tryd.ntmps42
    go_wp2
    go_ret
    exact ⟨rfl, (Below.refl _ _).alloc (Nat.le_refl _) _⟩
  · have h2 : decide (f ≤ k) = false := by simpa using h1
    rw [h2]
    clear h1
    go_enter Tryd.func42, Tryd.ntmps42
    go_wp2
    go_ret
    exact ⟨rfl, (Below.refl _ _).alloc (Nat.le_refl _) _⟩

/-- What marks.Kind answers. -/
def kindM (k : Int) (el at_ : List UInt8) : Int := if !inK k 8 10 || Lib.hasPrefix el [47] then 0 else attrK el at_
set_option maxHeartbeats 400000 in
theorem kind_any (w : World) : Calls Tryd.prog 70 #[.agg #[.int .i64 k, .string el, .string at_, .int .u8 d, .string pe, .string re, .int .i64 pa, .string wo]] w fun e w' => e = .returned (.int .i64 (kindM k el.data.toList at_.data.toList)) ∧ Below w.heap.size w w' := by
  have cI := fun w => in_any k el at_ d pe re pa wo 8 10 w
  have cP := fun w => hasPrefix_any el ⟨#[47]⟩ w
  have cA := fun w => attribute_any el at_ w
  unfold kindM
  rw [show Lib.hasPrefix el.data.toList [47] = Lib.hasPrefix el.data.toList (ByteArray.mk #[47]).data.toList from rfl]
  generalize inK k 8 10 = b1 at cI ⊢
  generalize Lib.hasPrefix el.data.toList (ByteArray.mk #[47]).data.toList = b2 at cP ⊢
  generalize attrK el.data.toList at_.data.toList = r at cA ⊢
  have cI := hide cI; have cP := hide cP; have cA := hide cA
  cases b1 <;> cases b2
  all_goals
    go_enter Tryd.func70, Tryd.ntmps70
    go_wp2_with fail
    refine (cI.out _).mono ?_
    rintro e w1 ⟨rfl, hb⟩
    obtain ⟨hc, hf⟩ := bcell hb
    go_wp2_with (first
      | (go_at_call 31; refine (cP.out _).mono ?_; rintro e w2 ⟨rfl, rfl⟩)
      | (go_at_call 101; refine (cA.out _).mono ?_; rintro e w2 ⟨rfl, rfl⟩))
    go_ret
    exact ⟨rfl, ((Below.refl _ _).alloc (Nat.le_refl _) _).trans (hb.mono (by simp))⟩

/-- Has a state a part? -/
def subM (k : Int) (el at_ : List UInt8) : Bool := inK k 18 19 || (inK k 9 10 && (decide (1 ≤ kindM k el at_) && decide (kindM k el at_ ≤ 3)))
theorem sub_gen (k : Int) (el at_ : ByteArray) (d : Int) (pe re : ByteArray) (pa : Int) (wo : ByteArray) (b1 b2 : Bool) (r : Int)
    (c1 : Hid (∀ w, Calls Tryd.prog 42 #[.agg #[.int .i64 k, .string el, .string at_, .int .u8 d, .string pe, .string re, .int .i64 pa, .string wo], .int .i64 18, .int .i64 19] w fun e w' => e = .returned (.bool b1) ∧ Below w.heap.size w w'))
    (c2 : Hid (∀ w, Calls Tryd.prog 42 #[.agg #[.int .i64 k, .string el, .string at_, .int .u8 d, .string pe, .string re, .int .i64 pa, .string wo], .int .i64 9, .int .i64 10] w fun e w' => e = .returned (.bool b2) ∧ Below w.heap.size w w'))
    (c3 : Hid (∀ w, Calls Tryd.prog 70 #[.agg #[.int .i64 k, .string el, .string at_, .int .u8 d, .string pe, .string re, .int .i64 pa, .string wo]] w fun e w' => e = .returned (.int .i64 r) ∧ Below w.heap.size w w')) (w : World) :
    Calls Tryd.prog 43 #[.agg #[.int .i64 k, .string el, .string at_, .int .u8 d, .string pe, .string re, .int .i64 pa, .string wo]] w fun e w' => e = .returned (.bool (b1 || (b2 && (decide (1 ≤ r) && decide (r ≤ 3))))) ∧ Below w.heap.size w w' := by
  cases b1
  · cases b2
    · go_enter Tryd.func43, Tryd.ntmps43
      go_wp2_with fail
      refine (c1.out _).mono ?_
      rintro e w1 ⟨rfl, hb1⟩
      obtain ⟨hc1, hf1⟩ := bcell hb1
      have hz1 : w.heap.size < w1.heap.size := by have := hb1.size; simp at this; omega
      go_wp2_with fail
      refine (c2.out _).mono ?_
      rintro e w2 ⟨rfl, hb2⟩
      go_wp2_with fail
      go_ret
      exact ⟨rfl, ((Below.refl _ _).alloc (Nat.le_refl _) _).trans ((below_step hb1 hb2).mono (by simp))⟩
    · by_cases g1 : 1 ≤ r
      · obtain ⟨b, hbb⟩ : ∃ b, decide (r ≤ 3) = b := ⟨_, rfl⟩
        rw [hbb, show decide (1 ≤ r) = true by simpa using g1]
        go_enter Tryd.func43, Tryd.ntmps43
        go_wp2_with fail
        refine (c1.out _).mono ?_
        rintro e w1 ⟨rfl, hb1⟩
        obtain ⟨hc1, hf1⟩ := bcell hb1
        have hz1 : w.heap.size < w1.heap.size := by have := hb1.size; simp at this; omega
        go_wp2_with fail
        refine (c2.out _).mono ?_
        rintro e w2 ⟨rfl, hb2⟩
        obtain ⟨hc2, hf2⟩ := bcell hb2
        have hz2 : w.heap.size < w2.heap.size := by have := hb2.size; omega
        go_wp2_with fail
        refine (c3.out _).mono ?_
        rintro e w3 ⟨rfl, hb3⟩
        obtain ⟨hc3, hf3⟩ := bcell hb3
        go_wp2_with fail
        refine (c3.out _).mono ?_
        rintro e w4 ⟨rfl, hb4⟩
        go_wp2_with fail
        go_ret
        exact ⟨rfl, ((Below.refl _ _).alloc (Nat.le_refl _) _).trans ((below_step (below_step (below_step hb1 hb2) hb3) hb4).mono (by simp))⟩
      · have g2 : decide (1 ≤ r) = false := by simpa using g1
        have g3 : r < 1 := by omega
        rw [g2]
        clear g1
        go_enter Tryd.func43, Tryd.ntmps43
        go_wp2_with fail
        refine (c1.out _).mono ?_
        rintro e w1 ⟨rfl, hb1⟩
        obtain ⟨hc1, hf1⟩ := bcell hb1
        have hz1 : w.heap.size < w1.heap.size := by have := hb1.size; simp at this; omega
        go_wp2_with fail
        refine (c2.out _).mono ?_
        rintro e w2 ⟨rfl, hb2⟩
        obtain ⟨hc2, hf2⟩ := bcell hb2
        have hz2 : w.heap.size < w2.heap.size := by have := hb2.size; omega
        go_wp2_with fail
        refine (c3.out _).mono ?_
        rintro e w3 ⟨rfl, hb3⟩
        go_wp2_with fail
        go_ret
        exact ⟨rfl, ((Below.refl _ _).alloc (Nat.le_refl _) _).trans ((below_step (below_step hb1 hb2) hb3).mono (by simp))⟩
  · go_enter Tryd.func43, Tryd.ntmps43
    go_wp2_with fail
    refine (c1.out _).mono ?_
    rintro e w1 ⟨rfl, hb1⟩
    go_wp2_with fail
    go_ret
    exact ⟨rfl, ((Below.refl _ _).alloc (Nat.le_refl _) _).trans (hb1.mono (by simp))⟩
theorem sub_any (w : World) : Calls Tryd.prog 43 #[.agg #[.int .i64 k, .string el, .string at_, .int .u8 d, .string pe, .string re, .int .i64 pa, .string wo]] w fun e w' => e = .returned (.bool (subM k el.data.toList at_.data.toList)) ∧ Below w.heap.size w w' :=
  sub_gen k el at_ d pe re pa wo _ _ _ (fun w => in_any k el at_ d pe re pa wo 18 19 w) (fun w => in_any k el at_ d pe re pa wo 9 10 w) (fun w => kind_any k el at_ d pe re pa wo w) w

/-- What marks.Check asks of a state whose kind is one. -/
def chk1 (el at_ pe re wo : Nat) (pa : Int) : Bool := decide (el ≤ 33) && (decide (at_ ≤ 32) && (decide (pe ≤ 34) && (decide (re ≤ 16) && (decide (wo ≤ 16) && (decide (0 ≤ pa) && decide (pa ≤ 15))))))
def chkD (k d : Int) : Bool := ((k == 9) == (d != 0)) && (d == 0 || (d == 34 || d == 39))
def chkOf (b : Bool) : Int := if b then 0 else 9
def chkM (k : Int) (el at_ : List UInt8) (d : Int) (pe re : List UInt8) (pa : Int) (wo : List UInt8) : Int :=
  if !inK k 0 19 then 4
  else chkOf (chk1 el.length at_.length pe.length re.length wo.length pa && (el.isEmpty || (inK k 3 12 || inK k 17 19)) && (at_.isEmpty || inK k 6 10) && chkD k d && (pe.isEmpty || inK k 16 19)
    && (re.isEmpty || (k == 0 || (k == 17 || inK k 9 10))) && (subM k el at_ || (pa == 0 && wo.isEmpty)))

theorem below_next {B : Nat} {a b c : World} (h : Below B a b) (hB : B ≤ a.heap.size) (k : Below b.heap.size b c) : Below B a c := h.trans (k.mono (Nat.le_trans hB h.size))
theorem empty_cases (s : ByteArray) : (s.toList = [] ∧ s.data.toList.isEmpty = true) ∨ (s.toList.isEmpty = false ∧ s.data.toList.isEmpty = false) := by
  rw [ByteArray.toList_eq]
  cases s.data.toList <;> simp

set_option maxHeartbeats 8000000 in
set_option maxRecDepth 100000 in
theorem check_gen (w : World) (b0 c1 c2 c3 c4 c5 sb : Bool) (hd0 : 0 ≤ d) (hd1 : d ≤ 255)
    (i0 : Hid (∀ w, Calls Tryd.prog 42 #[.agg #[.int .i64 k, .string el, .string at_, .int .u8 d, .string pe, .string re, .int .i64 pa, .string wo], .int .i64 0, .int .i64 19] w fun e w' => e = .returned (.bool b0) ∧ Below w.heap.size w w'))
    (i1 : Hid (∀ w, Calls Tryd.prog 42 #[.agg #[.int .i64 k, .string el, .string at_, .int .u8 d, .string pe, .string re, .int .i64 pa, .string wo], .int .i64 3, .int .i64 12] w fun e w' => e = .returned (.bool c1) ∧ Below w.heap.size w w'))
    (i2 : Hid (∀ w, Calls Tryd.prog 42 #[.agg #[.int .i64 k, .string el, .string at_, .int .u8 d, .string pe, .string re, .int .i64 pa, .string wo], .int .i64 17, .int .i64 19] w fun e w' => e = .returned (.bool c2) ∧ Below w.heap.size w w'))
    (i3 : Hid (∀ w, Calls Tryd.prog 42 #[.agg #[.int .i64 k, .string el, .string at_, .int .u8 d, .string pe, .string re, .int .i64 pa, .string wo], .int .i64 6, .int .i64 10] w fun e w' => e = .returned (.bool c3) ∧ Below w.heap.size w w'))
    (i4 : Hid (∀ w, Calls Tryd.prog 42 #[.agg #[.int .i64 k, .string el, .string at_, .int .u8 d, .string pe, .string re, .int .i64 pa, .string wo], .int .i64 16, .int .i64 19] w fun e w' => e = .returned (.bool c4) ∧ Below w.heap.size w w'))
    (i5 : Hid (∀ w, Calls Tryd.prog 42 #[.agg #[.int .i64 k, .string el, .string at_, .int .u8 d, .string pe, .string re, .int .i64 pa, .string wo], .int .i64 9, .int .i64 10] w fun e w' => e = .returned (.bool c5) ∧ Below w.heap.size w w'))
    (is : Hid (∀ w, Calls Tryd.prog 43 #[.agg #[.int .i64 k, .string el, .string at_, .int .u8 d, .string pe, .string re, .int .i64 pa, .string wo]] w fun e w' => e = .returned (.bool sb) ∧ Below w.heap.size w w'))
    (eE aE pE rE wE : Bool)
    (hE : (el.toList = [] ∧ eE = true) ∨ (el.toList.isEmpty = false ∧ eE = false)) (hA : (at_.toList = [] ∧ aE = true) ∨ (at_.toList.isEmpty = false ∧ aE = false))
    (hP : (pe.toList = [] ∧ pE = true) ∨ (pe.toList.isEmpty = false ∧ pE = false)) (hR : (re.toList = [] ∧ rE = true) ∨ (re.toList.isEmpty = false ∧ rE = false)) (hW : (wo.toList = [] ∧ wE = true) ∨ (wo.toList.isEmpty = false ∧ wE = false)) :
    Calls Tryd.prog 22 #[.agg #[.int .i64 k, .string el, .string at_, .int .u8 d, .string pe, .string re, .int .i64 pa, .string wo]] w fun e w' => e = .returned (.int .i64 (if !b0 then 4 else chkOf (chk1 el.size at_.size pe.size re.size wo.size pa && (eE || (c1 || c2)) && (aE || c3) && chkD k d && (pE || c4) && (rE || (k == 0 || (k == 17 || c5))) && (sb || (pa == 0 && wE))))) ∧ Below w.heap.size w w' := by
  have HE := hide hE; have HA := hide hA; have HP := hide hP; have HR := hide hR; have HW := hide hW
  clear hE hA hP hR hW
  cases b0
  · go_enter Tryd.func22, Tryd.ntmps22
    go_wp2_with fail
    refine (i0.out _).mono ?_
    rintro e w1 ⟨rfl, hb1⟩
    go_wp2_with fail
    go_ret
    exact ⟨rfl, ((Below.refl _ _).alloc (Nat.le_refl _) _).trans (hb1.mono (by simp))⟩
  · show Calls Tryd.prog 22 #[.agg #[.int .i64 k, .string el, .string at_, .int .u8 d, .string pe, .string re, .int .i64 pa, .string wo]] w fun e w' => e = .returned (.int .i64 (chkOf (chk1 el.size at_.size pe.size re.size wo.size pa && (eE || (c1 || c2)) && (aE || c3) && chkD k d && (pE || c4) && (rE || (k == 0 || (k == 17 || c5))) && (sb || (pa == 0 && wE))))) ∧ Below w.heap.size w w'
    obtain ⟨B1, hB1⟩ : ∃ B1, chk1 el.size at_.size pe.size re.size wo.size pa = B1 := ⟨_, rfl⟩
    obtain ⟨D, hD⟩ : ∃ D, chkD k d = D := ⟨_, rfl⟩
    rw [hB1, hD]
    have HB1 := hide hB1; have HD := hide hD
    clear hB1 hD
    obtain ⟨W0, hW0⟩ : ∃ W0, (w.alloc (.cells #[.int .i64 k, .string el, .string at_, .int .u8 d, .string pe, .string re, .int .i64 pa, .string wo] 29)) = W0 := ⟨_, rfl⟩
    have hsz0 : w.heap.size + 1 = W0.heap.size := by rw [← hW0]; simp
    have HW0 := hide hW0; have HS0 := hide hsz0
    have hcells : Blk W0 w.heap.size 29 #[.int .i64 k, .string el, .string at_, .int .u8 d, .string pe, .string re, .int .i64 pa, .string wo] := by rw [← hW0]; exact Blk.new _ _ _
    clear hW0 hsz0
    go_enter Tryd.func22, Tryd.ntmps22
    go_wp2_with fail
    refine (i0.out _).mono ?_
    rw [HW0.out]
    rintro e w1 ⟨rfl, hb1⟩
    have hbx : Below (w.heap.size + 1) W0 w1 := by rw [HS0.out]; exact hb1
    clear hb1
    go_upto_region 3 with (fail)
    go_cut [3] (fun s3 wx => s3 = .bool B1 ∧ Below (w.heap.size + 1) W0 wx)
    case first =>
     as_aux_lemma =>
      have q0 : w1.cell? ⟨w.heap.size, 0, none⟩ = some (.int .i64 k) := by rw [hbx.cell (p := ⟨w.heap.size, 0, none⟩) (by simp), hcells.cell]; rfl
      have q1 : w1.cell? ⟨w.heap.size, 1, none⟩ = some (.string el) := by rw [hbx.cell (p := ⟨w.heap.size, 1, none⟩) (by simp), hcells.cell]; rfl
      have q2 : w1.cell? ⟨w.heap.size, 2, none⟩ = some (.string at_) := by rw [hbx.cell (p := ⟨w.heap.size, 2, none⟩) (by simp), hcells.cell]; rfl
      have q3 : w1.cell? ⟨w.heap.size, 3, none⟩ = some (.int .u8 d) := by rw [hbx.cell (p := ⟨w.heap.size, 3, none⟩) (by simp), hcells.cell]; rfl
      have q4 : w1.cell? ⟨w.heap.size, 4, none⟩ = some (.string pe) := by rw [hbx.cell (p := ⟨w.heap.size, 4, none⟩) (by simp), hcells.cell]; rfl
      have q5 : w1.cell? ⟨w.heap.size, 5, none⟩ = some (.string re) := by rw [hbx.cell (p := ⟨w.heap.size, 5, none⟩) (by simp), hcells.cell]; rfl
      have q6 : w1.cell? ⟨w.heap.size, 6, none⟩ = some (.int .i64 pa) := by rw [hbx.cell (p := ⟨w.heap.size, 6, none⟩) (by simp), hcells.cell]; rfl
      have q7 : w1.cell? ⟨w.heap.size, 7, none⟩ = some (.string wo) := by rw [hbx.cell (p := ⟨w.heap.size, 7, none⟩) (by simp), hcells.cell]; rfl
      by_cases t0 : ¬ ((el.size : Int) ≤ 33)
      · have u0 : decide ((el.size : Int) ≤ 33) = false := by simpa using t0
        have v0 : 33 < (el.size : Int) := by omega
        have hBF := hide (show B1 = false by rw [← HB1.out]; unfold chk1; simp; omega)
        clear t0
        go_wp2_with fail
        go_meet
        exact ⟨by rw [hBF.out], hbx⟩
      replace t0 : (el.size : Int) ≤ 33 := by omega
      by_cases t1 : ¬ ((at_.size : Int) ≤ 32)
      · have u1 : decide ((at_.size : Int) ≤ 32) = false := by simpa using t1
        have v1 : 32 < (at_.size : Int) := by omega
        have hBF := hide (show B1 = false by rw [← HB1.out]; unfold chk1; simp; omega)
        clear t1
        go_wp2_with fail
        go_meet
        exact ⟨by rw [hBF.out], hbx⟩
      replace t1 : (at_.size : Int) ≤ 32 := by omega
      by_cases t2 : ¬ ((pe.size : Int) ≤ 34)
      · have u2 : decide ((pe.size : Int) ≤ 34) = false := by simpa using t2
        have v2 : 34 < (pe.size : Int) := by omega
        have hBF := hide (show B1 = false by rw [← HB1.out]; unfold chk1; simp; omega)
        clear t2
        go_wp2_with fail
        go_meet
        exact ⟨by rw [hBF.out], hbx⟩
      replace t2 : (pe.size : Int) ≤ 34 := by omega
      by_cases t3 : ¬ ((re.size : Int) ≤ 16)
      · have u3 : decide ((re.size : Int) ≤ 16) = false := by simpa using t3
        have v3 : 16 < (re.size : Int) := by omega
        have hBF := hide (show B1 = false by rw [← HB1.out]; unfold chk1; simp; omega)
        clear t3
        go_wp2_with fail
        go_meet
        exact ⟨by rw [hBF.out], hbx⟩
      replace t3 : (re.size : Int) ≤ 16 := by omega
      by_cases t4 : ¬ ((wo.size : Int) ≤ 16)
      · have u4 : decide ((wo.size : Int) ≤ 16) = false := by simpa using t4
        have v4 : 16 < (wo.size : Int) := by omega
        have hBF := hide (show B1 = false by rw [← HB1.out]; unfold chk1; simp; omega)
        clear t4
        go_wp2_with fail
        go_meet
        exact ⟨by rw [hBF.out], hbx⟩
      replace t4 : (wo.size : Int) ≤ 16 := by omega
      by_cases t5 : ¬ ((0 : Int) ≤ pa)
      · have u5 : decide ((0 : Int) ≤ pa) = false := by simpa using t5
        have v5 : pa < (0 : Int) := by omega
        have hBF := hide (show B1 = false by rw [← HB1.out]; unfold chk1; simp; omega)
        clear t5
        go_wp2_with fail
        go_meet
        exact ⟨by rw [hBF.out], hbx⟩
      replace t5 : (0 : Int) ≤ pa := by omega
      obtain ⟨b, hbb⟩ : ∃ b, decide (pa ≤ 15) = b := ⟨_, rfl⟩
      have hBF := hide (show b = B1 by rw [← HB1.out, ← hbb]; unfold chk1; rw [show decide (el.size ≤ 33) = true by simp; omega, show decide (at_.size ≤ 32) = true by simp; omega, show decide (pe.size ≤ 34) = true by simp; omega, show decide (re.size ≤ 16) = true by simp; omega, show decide (wo.size ≤ 16) = true by simp; omega, show decide (0 ≤ pa) = true by simp; omega]; rfl)
      go_wp2_with fail
      go_meet
      exact ⟨by rw [hBF.out], hbx⟩
    case rest =>
    obtain ⟨rfl, hbx⟩ := hcut
    go_upto_region 4 with (fail)
    go_cut [3] (fun s3 wy => s3 = .bool (B1 && (eE || (c1 || c2))) ∧ Below (w.heap.size + 1) W0 wy)
    case first =>
     as_aux_lemma =>
      have q0 : wc.cell? ⟨w.heap.size, 0, none⟩ = some (.int .i64 k) := by rw [hbx.cell (p := ⟨w.heap.size, 0, none⟩) (by simp), hcells.cell]; rfl
      have q1 : wc.cell? ⟨w.heap.size, 1, none⟩ = some (.string el) := by rw [hbx.cell (p := ⟨w.heap.size, 1, none⟩) (by simp), hcells.cell]; rfl
      have q2 : wc.cell? ⟨w.heap.size, 2, none⟩ = some (.string at_) := by rw [hbx.cell (p := ⟨w.heap.size, 2, none⟩) (by simp), hcells.cell]; rfl
      have q3 : wc.cell? ⟨w.heap.size, 3, none⟩ = some (.int .u8 d) := by rw [hbx.cell (p := ⟨w.heap.size, 3, none⟩) (by simp), hcells.cell]; rfl
      have q4 : wc.cell? ⟨w.heap.size, 4, none⟩ = some (.string pe) := by rw [hbx.cell (p := ⟨w.heap.size, 4, none⟩) (by simp), hcells.cell]; rfl
      have q5 : wc.cell? ⟨w.heap.size, 5, none⟩ = some (.string re) := by rw [hbx.cell (p := ⟨w.heap.size, 5, none⟩) (by simp), hcells.cell]; rfl
      have q6 : wc.cell? ⟨w.heap.size, 6, none⟩ = some (.int .i64 pa) := by rw [hbx.cell (p := ⟨w.heap.size, 6, none⟩) (by simp), hcells.cell]; rfl
      have q7 : wc.cell? ⟨w.heap.size, 7, none⟩ = some (.string wo) := by rw [hbx.cell (p := ⟨w.heap.size, 7, none⟩) (by simp), hcells.cell]; rfl
      cases B1
      · go_wp2_with fail
        go_meet
        exact ⟨rfl, hbx⟩
      rcases HE.out with ⟨h, rfl⟩ | ⟨h, rfl⟩
      · go_wp2_with fail
        go_meet
        exact ⟨rfl, hbx⟩
      cases c1
      · go_wp2_with fail
        refine (i1.out _).mono ?_
        rintro e w9 ⟨rfl, hb9⟩
        have hbx := (below_next hbx (by have := HS0.out; omega) hb9)
        have p0 : w9.cell? ⟨w.heap.size, 0, none⟩ = some (.int .i64 k) := by rw [hbx.cell (p := ⟨w.heap.size, 0, none⟩) (by simp), hcells.cell]; rfl
        have p1 : w9.cell? ⟨w.heap.size, 1, none⟩ = some (.string el) := by rw [hbx.cell (p := ⟨w.heap.size, 1, none⟩) (by simp), hcells.cell]; rfl
        have p2 : w9.cell? ⟨w.heap.size, 2, none⟩ = some (.string at_) := by rw [hbx.cell (p := ⟨w.heap.size, 2, none⟩) (by simp), hcells.cell]; rfl
        have p3 : w9.cell? ⟨w.heap.size, 3, none⟩ = some (.int .u8 d) := by rw [hbx.cell (p := ⟨w.heap.size, 3, none⟩) (by simp), hcells.cell]; rfl
        have p4 : w9.cell? ⟨w.heap.size, 4, none⟩ = some (.string pe) := by rw [hbx.cell (p := ⟨w.heap.size, 4, none⟩) (by simp), hcells.cell]; rfl
        have p5 : w9.cell? ⟨w.heap.size, 5, none⟩ = some (.string re) := by rw [hbx.cell (p := ⟨w.heap.size, 5, none⟩) (by simp), hcells.cell]; rfl
        have p6 : w9.cell? ⟨w.heap.size, 6, none⟩ = some (.int .i64 pa) := by rw [hbx.cell (p := ⟨w.heap.size, 6, none⟩) (by simp), hcells.cell]; rfl
        have p7 : w9.cell? ⟨w.heap.size, 7, none⟩ = some (.string wo) := by rw [hbx.cell (p := ⟨w.heap.size, 7, none⟩) (by simp), hcells.cell]; rfl
        cases c2
        · go_wp2_with fail
          refine (i2.out _).mono ?_
          rintro e w8 ⟨rfl, hb9⟩
          go_wp2_with fail
          go_meet
          exact ⟨rfl, (below_next hbx (by have := HS0.out; omega) hb9)⟩
        · go_wp2_with fail
          refine (i2.out _).mono ?_
          rintro e w8 ⟨rfl, hb9⟩
          go_wp2_with fail
          go_meet
          exact ⟨rfl, (below_next hbx (by have := HS0.out; omega) hb9)⟩
      · go_wp2_with fail
        refine (i1.out _).mono ?_
        rintro e w9 ⟨rfl, hb9⟩
        go_wp2_with fail
        go_meet
        exact ⟨rfl, (below_next hbx (by have := HS0.out; omega) hb9)⟩
    case rest =>
    obtain ⟨rfl, hbx⟩ := hcut
    obtain ⟨B2, hB2⟩ : ∃ b, (B1 && (eE || (c1 || c2))) = b := ⟨_, rfl⟩
    rw [hB2]
    have HB2 := hide hB2
    clear hB2
    go_upto_region 5 with (fail)
    go_cut [3] (fun s3 wy => s3 = .bool (B2 && (aE || c3)) ∧ Below (w.heap.size + 1) W0 wy)
    case first =>
     as_aux_lemma =>
      have q0 : wc.cell? ⟨w.heap.size, 0, none⟩ = some (.int .i64 k) := by rw [hbx.cell (p := ⟨w.heap.size, 0, none⟩) (by simp), hcells.cell]; rfl
      have q1 : wc.cell? ⟨w.heap.size, 1, none⟩ = some (.string el) := by rw [hbx.cell (p := ⟨w.heap.size, 1, none⟩) (by simp), hcells.cell]; rfl
      have q2 : wc.cell? ⟨w.heap.size, 2, none⟩ = some (.string at_) := by rw [hbx.cell (p := ⟨w.heap.size, 2, none⟩) (by simp), hcells.cell]; rfl
      have q3 : wc.cell? ⟨w.heap.size, 3, none⟩ = some (.int .u8 d) := by rw [hbx.cell (p := ⟨w.heap.size, 3, none⟩) (by simp), hcells.cell]; rfl
      have q4 : wc.cell? ⟨w.heap.size, 4, none⟩ = some (.string pe) := by rw [hbx.cell (p := ⟨w.heap.size, 4, none⟩) (by simp), hcells.cell]; rfl
      have q5 : wc.cell? ⟨w.heap.size, 5, none⟩ = some (.string re) := by rw [hbx.cell (p := ⟨w.heap.size, 5, none⟩) (by simp), hcells.cell]; rfl
      have q6 : wc.cell? ⟨w.heap.size, 6, none⟩ = some (.int .i64 pa) := by rw [hbx.cell (p := ⟨w.heap.size, 6, none⟩) (by simp), hcells.cell]; rfl
      have q7 : wc.cell? ⟨w.heap.size, 7, none⟩ = some (.string wo) := by rw [hbx.cell (p := ⟨w.heap.size, 7, none⟩) (by simp), hcells.cell]; rfl
      cases B2
      · go_wp2_with fail
        go_meet
        exact ⟨rfl, hbx⟩
      rcases HA.out with ⟨h, rfl⟩ | ⟨h, rfl⟩
      · go_wp2_with fail
        go_meet
        exact ⟨rfl, hbx⟩
      go_wp2_with fail
      refine (i3.out _).mono ?_
      rintro e w9 ⟨rfl, hb9⟩
      cases c3
      · go_wp2_with fail
        go_meet
        exact ⟨rfl, (below_next hbx (by have := HS0.out; omega) hb9)⟩
      · go_wp2_with fail
        go_meet
        exact ⟨rfl, (below_next hbx (by have := HS0.out; omega) hb9)⟩
    case rest =>
    obtain ⟨rfl, hbx⟩ := hcut
    obtain ⟨B3, hB3⟩ : ∃ b, (B2 && (aE || c3)) = b := ⟨_, rfl⟩
    rw [hB3]
    have HB3 := hide hB3
    clear hB3
    go_upto_region 6 with (fail)
    go_cut [3] (fun s3 wy => s3 = .bool (B3 && D) ∧ Below (w.heap.size + 1) W0 wy)
    case first =>
     as_aux_lemma =>
      have q0 : wc.cell? ⟨w.heap.size, 0, none⟩ = some (.int .i64 k) := by rw [hbx.cell (p := ⟨w.heap.size, 0, none⟩) (by simp), hcells.cell]; rfl
      have q1 : wc.cell? ⟨w.heap.size, 1, none⟩ = some (.string el) := by rw [hbx.cell (p := ⟨w.heap.size, 1, none⟩) (by simp), hcells.cell]; rfl
      have q2 : wc.cell? ⟨w.heap.size, 2, none⟩ = some (.string at_) := by rw [hbx.cell (p := ⟨w.heap.size, 2, none⟩) (by simp), hcells.cell]; rfl
      have q3 : wc.cell? ⟨w.heap.size, 3, none⟩ = some (.int .u8 d) := by rw [hbx.cell (p := ⟨w.heap.size, 3, none⟩) (by simp), hcells.cell]; rfl
      have q4 : wc.cell? ⟨w.heap.size, 4, none⟩ = some (.string pe) := by rw [hbx.cell (p := ⟨w.heap.size, 4, none⟩) (by simp), hcells.cell]; rfl
      have q5 : wc.cell? ⟨w.heap.size, 5, none⟩ = some (.string re) := by rw [hbx.cell (p := ⟨w.heap.size, 5, none⟩) (by simp), hcells.cell]; rfl
      have q6 : wc.cell? ⟨w.heap.size, 6, none⟩ = some (.int .i64 pa) := by rw [hbx.cell (p := ⟨w.heap.size, 6, none⟩) (by simp), hcells.cell]; rfl
      have q7 : wc.cell? ⟨w.heap.size, 7, none⟩ = some (.string wo) := by rw [hbx.cell (p := ⟨w.heap.size, 7, none⟩) (by simp), hcells.cell]; rfl
      cases B3
      · go_wp2_with fail
        go_meet
        exact ⟨rfl, hbx⟩
      have hDD := HD.out
      unfold chkD at hDD
      rcases Bool.eq_false_or_eq_true (k == 9) with g1 | g1 <;> rcases Bool.eq_false_or_eq_true (d == 0) with g2 | g2 <;> rcases Bool.eq_false_or_eq_true (d == 34) with g3 | g3 <;> rcases Bool.eq_false_or_eq_true (d == 39) with g4 | g4
      all_goals
        rw [show (d != 0) = !(d == 0) from rfl, g1, g2, g3, g4] at hDD
        simp only [Bool.not_true, Bool.not_false, Bool.or_true, Bool.true_or, Bool.or_false, Bool.and_true, Bool.and_false, Bool.true_and, Bool.false_and, beq_self_eq_true] at hDD
        have g5 : (d != 0) = !(d == 0) := rfl
        rw [g2] at g5
        have HD2 := hide hDD; clear hDD
        go_wp2_with fail
        go_meet
        exact ⟨by rw [← HD2.out]; rfl, hbx⟩
    case rest =>
    obtain ⟨rfl, hbx⟩ := hcut
    obtain ⟨B4, hB4⟩ : ∃ b, (B3 && D) = b := ⟨_, rfl⟩
    rw [hB4]
    have HB4 := hide hB4
    clear hB4
    go_upto_region 7 with (fail)
    go_cut [3] (fun s3 wy => s3 = .bool (B4 && (pE || c4)) ∧ Below (w.heap.size + 1) W0 wy)
    case first =>
     as_aux_lemma =>
      have q0 : wc.cell? ⟨w.heap.size, 0, none⟩ = some (.int .i64 k) := by rw [hbx.cell (p := ⟨w.heap.size, 0, none⟩) (by simp), hcells.cell]; rfl
      have q1 : wc.cell? ⟨w.heap.size, 1, none⟩ = some (.string el) := by rw [hbx.cell (p := ⟨w.heap.size, 1, none⟩) (by simp), hcells.cell]; rfl
      have q2 : wc.cell? ⟨w.heap.size, 2, none⟩ = some (.string at_) := by rw [hbx.cell (p := ⟨w.heap.size, 2, none⟩) (by simp), hcells.cell]; rfl
      have q3 : wc.cell? ⟨w.heap.size, 3, none⟩ = some (.int .u8 d) := by rw [hbx.cell (p := ⟨w.heap.size, 3, none⟩) (by simp), hcells.cell]; rfl
      have q4 : wc.cell? ⟨w.heap.size, 4, none⟩ = some (.string pe) := by rw [hbx.cell (p := ⟨w.heap.size, 4, none⟩) (by simp), hcells.cell]; rfl
      have q5 : wc.cell? ⟨w.heap.size, 5, none⟩ = some (.string re) := by rw [hbx.cell (p := ⟨w.heap.size, 5, none⟩) (by simp), hcells.cell]; rfl
      have q6 : wc.cell? ⟨w.heap.size, 6, none⟩ = some (.int .i64 pa) := by rw [hbx.cell (p := ⟨w.heap.size, 6, none⟩) (by simp), hcells.cell]; rfl
      have q7 : wc.cell? ⟨w.heap.size, 7, none⟩ = some (.string wo) := by rw [hbx.cell (p := ⟨w.heap.size, 7, none⟩) (by simp), hcells.cell]; rfl
      cases B4
      · go_wp2_with fail
        go_meet
        exact ⟨rfl, hbx⟩
      rcases HP.out with ⟨h, rfl⟩ | ⟨h, rfl⟩
      · go_wp2_with fail
        go_meet
        exact ⟨rfl, hbx⟩
      go_wp2_with fail
      refine (i4.out _).mono ?_
      rintro e w9 ⟨rfl, hb9⟩
      cases c4
      · go_wp2_with fail
        go_meet
        exact ⟨rfl, (below_next hbx (by have := HS0.out; omega) hb9)⟩
      · go_wp2_with fail
        go_meet
        exact ⟨rfl, (below_next hbx (by have := HS0.out; omega) hb9)⟩
    case rest =>
    obtain ⟨rfl, hbx⟩ := hcut
    obtain ⟨B5, hB5⟩ : ∃ b, (B4 && (pE || c4)) = b := ⟨_, rfl⟩
    rw [hB5]
    have HB5 := hide hB5
    clear hB5
    go_upto_region 8 with (fail)
    go_cut [3] (fun s3 wy => s3 = .bool (B5 && (rE || (k == 0 || (k == 17 || c5)))) ∧ Below (w.heap.size + 1) W0 wy)
    case first =>
     as_aux_lemma =>
      have q0 : wc.cell? ⟨w.heap.size, 0, none⟩ = some (.int .i64 k) := by rw [hbx.cell (p := ⟨w.heap.size, 0, none⟩) (by simp), hcells.cell]; rfl
      have q1 : wc.cell? ⟨w.heap.size, 1, none⟩ = some (.string el) := by rw [hbx.cell (p := ⟨w.heap.size, 1, none⟩) (by simp), hcells.cell]; rfl
      have q2 : wc.cell? ⟨w.heap.size, 2, none⟩ = some (.string at_) := by rw [hbx.cell (p := ⟨w.heap.size, 2, none⟩) (by simp), hcells.cell]; rfl
      have q3 : wc.cell? ⟨w.heap.size, 3, none⟩ = some (.int .u8 d) := by rw [hbx.cell (p := ⟨w.heap.size, 3, none⟩) (by simp), hcells.cell]; rfl
      have q4 : wc.cell? ⟨w.heap.size, 4, none⟩ = some (.string pe) := by rw [hbx.cell (p := ⟨w.heap.size, 4, none⟩) (by simp), hcells.cell]; rfl
      have q5 : wc.cell? ⟨w.heap.size, 5, none⟩ = some (.string re) := by rw [hbx.cell (p := ⟨w.heap.size, 5, none⟩) (by simp), hcells.cell]; rfl
      have q6 : wc.cell? ⟨w.heap.size, 6, none⟩ = some (.int .i64 pa) := by rw [hbx.cell (p := ⟨w.heap.size, 6, none⟩) (by simp), hcells.cell]; rfl
      have q7 : wc.cell? ⟨w.heap.size, 7, none⟩ = some (.string wo) := by rw [hbx.cell (p := ⟨w.heap.size, 7, none⟩) (by simp), hcells.cell]; rfl
      cases B5
      · go_wp2_with fail
        go_meet
        exact ⟨rfl, hbx⟩
      rcases HR.out with ⟨h, rfl⟩ | ⟨h, rfl⟩
      · go_wp2_with fail
        go_meet
        exact ⟨rfl, hbx⟩
      rcases Bool.eq_false_or_eq_true (k == 0) with g1 | g1
      · go_wp2_with fail
        go_meet
        exact ⟨by first | rfl | (rw [g1]; rfl) | simp [g1], hbx⟩
      rcases Bool.eq_false_or_eq_true (k == 17) with g2 | g2
      · go_wp2_with fail
        go_meet
        exact ⟨by first | rfl | (rw [g1, g2]; rfl) | simp [g1, g2], hbx⟩
      go_wp2_with fail
      refine (i5.out _).mono ?_
      rintro e w9 ⟨rfl, hb9⟩
      cases c5
      · go_wp2_with fail
        go_meet
        exact ⟨by first | rfl | (rw [g1, g2]; rfl) | simp [g1, g2], (below_next hbx (by have := HS0.out; omega) hb9)⟩
      · go_wp2_with fail
        go_meet
        exact ⟨by first | rfl | (rw [g1, g2]; rfl) | simp [g1, g2], (below_next hbx (by have := HS0.out; omega) hb9)⟩
    case rest =>
    obtain ⟨rfl, hbx⟩ := hcut
    obtain ⟨B6, hB6⟩ : ∃ b, (B5 && (rE || (k == 0 || (k == 17 || c5)))) = b := ⟨_, rfl⟩
    rw [hB6]
    have HB6 := hide hB6
    clear hB6
    go_upto_region 9 with (fail)
    go_cut [3] (fun s3 wy => s3 = .bool (B6 && (sb || (pa == 0 && wE))) ∧ Below (w.heap.size + 1) W0 wy)
    case first =>
     as_aux_lemma =>
      have q0 : wc.cell? ⟨w.heap.size, 0, none⟩ = some (.int .i64 k) := by rw [hbx.cell (p := ⟨w.heap.size, 0, none⟩) (by simp), hcells.cell]; rfl
      have q1 : wc.cell? ⟨w.heap.size, 1, none⟩ = some (.string el) := by rw [hbx.cell (p := ⟨w.heap.size, 1, none⟩) (by simp), hcells.cell]; rfl
      have q2 : wc.cell? ⟨w.heap.size, 2, none⟩ = some (.string at_) := by rw [hbx.cell (p := ⟨w.heap.size, 2, none⟩) (by simp), hcells.cell]; rfl
      have q3 : wc.cell? ⟨w.heap.size, 3, none⟩ = some (.int .u8 d) := by rw [hbx.cell (p := ⟨w.heap.size, 3, none⟩) (by simp), hcells.cell]; rfl
      have q4 : wc.cell? ⟨w.heap.size, 4, none⟩ = some (.string pe) := by rw [hbx.cell (p := ⟨w.heap.size, 4, none⟩) (by simp), hcells.cell]; rfl
      have q5 : wc.cell? ⟨w.heap.size, 5, none⟩ = some (.string re) := by rw [hbx.cell (p := ⟨w.heap.size, 5, none⟩) (by simp), hcells.cell]; rfl
      have q6 : wc.cell? ⟨w.heap.size, 6, none⟩ = some (.int .i64 pa) := by rw [hbx.cell (p := ⟨w.heap.size, 6, none⟩) (by simp), hcells.cell]; rfl
      have q7 : wc.cell? ⟨w.heap.size, 7, none⟩ = some (.string wo) := by rw [hbx.cell (p := ⟨w.heap.size, 7, none⟩) (by simp), hcells.cell]; rfl
      cases B6
      · go_wp2_with fail
        go_meet
        exact ⟨rfl, hbx⟩
      cases sb
      · go_wp2_with fail
        refine (is.out _).mono ?_
        rintro e w9 ⟨rfl, hb9⟩
        have hbx := (below_next hbx (by have := HS0.out; omega) hb9)
        have p0 : w9.cell? ⟨w.heap.size, 0, none⟩ = some (.int .i64 k) := by rw [hbx.cell (p := ⟨w.heap.size, 0, none⟩) (by simp), hcells.cell]; rfl
        have p1 : w9.cell? ⟨w.heap.size, 1, none⟩ = some (.string el) := by rw [hbx.cell (p := ⟨w.heap.size, 1, none⟩) (by simp), hcells.cell]; rfl
        have p2 : w9.cell? ⟨w.heap.size, 2, none⟩ = some (.string at_) := by rw [hbx.cell (p := ⟨w.heap.size, 2, none⟩) (by simp), hcells.cell]; rfl
        have p3 : w9.cell? ⟨w.heap.size, 3, none⟩ = some (.int .u8 d) := by rw [hbx.cell (p := ⟨w.heap.size, 3, none⟩) (by simp), hcells.cell]; rfl
        have p4 : w9.cell? ⟨w.heap.size, 4, none⟩ = some (.string pe) := by rw [hbx.cell (p := ⟨w.heap.size, 4, none⟩) (by simp), hcells.cell]; rfl
        have p5 : w9.cell? ⟨w.heap.size, 5, none⟩ = some (.string re) := by rw [hbx.cell (p := ⟨w.heap.size, 5, none⟩) (by simp), hcells.cell]; rfl
        have p6 : w9.cell? ⟨w.heap.size, 6, none⟩ = some (.int .i64 pa) := by rw [hbx.cell (p := ⟨w.heap.size, 6, none⟩) (by simp), hcells.cell]; rfl
        have p7 : w9.cell? ⟨w.heap.size, 7, none⟩ = some (.string wo) := by rw [hbx.cell (p := ⟨w.heap.size, 7, none⟩) (by simp), hcells.cell]; rfl
        rcases Bool.eq_false_or_eq_true (pa == 0) with g1 | g1
        · rcases HW.out with ⟨h, rfl⟩ | ⟨h, rfl⟩
          · go_wp2_with fail
            go_meet
            exact ⟨by first | rfl | (rw [g1]; rfl) | simp [g1], hbx⟩
          · go_wp2_with fail
            go_meet
            exact ⟨by first | rfl | (rw [g1]; rfl) | simp [g1], hbx⟩
        · go_wp2_with fail
          go_meet
          exact ⟨by first | rfl | (rw [g1]; rfl) | simp [g1], hbx⟩
      · go_wp2_with fail
        refine (is.out _).mono ?_
        rintro e w9 ⟨rfl, hb9⟩
        go_wp2_with fail
        go_meet
        exact ⟨rfl, (below_next hbx (by have := HS0.out; omega) hb9)⟩
    case rest =>
    obtain ⟨rfl, hbx⟩ := hcut
    obtain ⟨B7, hB7⟩ : ∃ b, (B6 && (sb || (pa == 0 && wE))) = b := ⟨_, rfl⟩
    rw [hB7]
    have HB7 := hide hB7
    clear hB7
    cases B7
    · go_wp2_with fail
      go_ret
      exact ⟨ret_int (by rw [HB2.out, HB3.out, HB4.out, HB5.out, HB6.out, HB7.out]; rfl), by rw [← HW0.out] at hbx; exact ((Below.refl _ _).alloc (Nat.le_refl _) _).trans (hbx.mono (by omega))⟩
    · go_wp2_with fail
      go_ret
      exact ⟨ret_int (by rw [HB2.out, HB3.out, HB4.out, HB5.out, HB6.out, HB7.out]; rfl), by rw [← HW0.out] at hbx; exact ((Below.refl _ _).alloc (Nat.le_refl _) _).trans (hbx.mono (by omega))⟩

/-- marks.Check. -/
theorem check_any (w : World) (hd0 : 0 ≤ d) (hd1 : d ≤ 255) : Calls Tryd.prog 22 #[.agg #[.int .i64 k, .string el, .string at_, .int .u8 d, .string pe, .string re, .int .i64 pa, .string wo]] w fun e w' => e = .returned (.int .i64 (chkM k el.data.toList at_.data.toList d pe.data.toList re.data.toList pa wo.data.toList)) ∧ Below w.heap.size w w' := by
  unfold chkM
  rw [size_list, size_list, size_list, size_list, size_list]
  exact check_gen k el at_ d pe re pa wo w _ _ _ _ _ _ _ hd0 hd1 (fun w => in_any k el at_ d pe re pa wo 0 19 w) (fun w => in_any k el at_ d pe re pa wo 3 12 w) (fun w => in_any k el at_ d pe re pa wo 17 19 w) (fun w => in_any k el at_ d pe re pa wo 6 10 w)
    (fun w => in_any k el at_ d pe re pa wo 16 19 w) (fun w => in_any k el at_ d pe re pa wo 9 10 w) (fun w => sub_any k el at_ d pe re pa wo w) _ _ _ _ _ (empty_cases el) (empty_cases at_) (empty_cases pe) (empty_cases re) (empty_cases wo)
end
end Go.Proofs.YtlandmahjdaphaaDoor
