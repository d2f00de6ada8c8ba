/-
  PLAIN LAWS of many texts, in one.
-/
import Derived.Test.YtnepogddjinpoaaGreatDoorM1
import Derived.Deep.RegionLaw
import Derived.StillTail
import Derived.Test.YtnepogddjinpoaaGreatDoorExWalk
import Derived.Deep.AppendLies
import Derived.Deep.Cut
import Derived.Deep.CutRange
import Derived.Deep.DeepCutAuto
import Derived.Deep.RegionHeld3
import Derived.Deep.Onto
namespace Go.Proofs.YtnepogddjinpoaaGreatDoor
open Go.RowKit
set_option linter.unusedVariables false
set_option linter.unusedSimpArgs false

/-- How many of the first n operations have not come up. -/
def remB : Nat → Array Bool → Nat
  | 0, _ => 0
  | n + 1, l => remB n l + if l.getD n true = false then 1 else 0
theorem remB_set {i : Nat} {l : Array Bool} (h : l.getD i true = false) : ∀ n, remB n (l.setIfInBounds i true) + (if i < n then 1 else 0) = remB n l := by
  have hi : i < l.size := by
    rcases Nat.lt_or_ge i l.size with h1 | h1
    · exact h1
    · simp [Array.getElem?_eq_none h1] at h
  intro n
  induction n with
  | zero => simp [remB]
  | succ n ih =>
    simp only [remB]
    by_cases hn : i = n
    · subst hn
      have e1 : (l.setIfInBounds i true).getD i true = true := by simp [hi]
      rw [e1]
      simp at ih
      simp [ih, h]
    · rw [getD_set_ne true hn]
      by_cases h2 : i < n
      · simp [h2, show i < n + 1 by omega] at ih ⊢; omega
      · simp [h2, show ¬ i < n + 1 by omega] at ih ⊢; omega
section
variable {P : Program} {md : Region.Mode} {ops : Array Oper} {Q : Exit → Act → World → Prop}
theorem wpAny_inv (I : Array Bool → Act → World → Prop)
    (h : ∀ l a w, I l a w → wpAny P md ops Q (remB ops.size l) l a w ∨ (Region.ready md ops l ≠ [] ∧ ∀ i ∈ Region.ready md ops l, wpOp P ops Q i (I (l.setIfInBounds i true)) a w)) :
    ∀ n l a w, remB ops.size l = n → I l a w → wpAny P md ops Q n l a w := by
  intro n
  induction n with
  | zero =>
    intro l a w hn hI
    rcases h l a w hI with h1 | ⟨h1, _⟩
    · rw [hn] at h1; exact h1
    · obtain ⟨i, hi⟩ := List.exists_mem_of_ne_nil _ h1
      obtain ⟨h2, o, h3, _⟩ := mem_ready.1 hi
      have h4 : i < ops.size := (Array.getElem?_eq_some_iff.1 h3).1
      have := remB_set h2 ops.size
      simp [h4] at this; omega
  | succ n ih =>
    intro l a w hn hI
    rcases h l a w hI with h1 | ⟨h1, h2⟩
    · rw [hn] at h1; exact h1
    · refine ⟨fun h0 => absurd h0 h1, fun i hi => ?_⟩
      obtain ⟨h3, o, h4, _⟩ := mem_ready.1 hi
      have h5 : i < ops.size := (Array.getElem?_eq_some_iff.1 h4).1
      have h6 := remB_set h3 ops.size
      simp [h5] at h6
      exact wpOp_mono (fun a' w' hI' => ih _ a' w' (by omega) hI') (h2 i hi)
theorem wpOp_run {i : Nat} {o : Oper} {K : Act → World → Prop} {a : Act} {w w' : World} {v : Value} (hi : ops[i]? = some o) (hg : o.guard = none) (hr : (execOp a.eval o).run P w = .ok (.value v) w') (h : K (a.put o.dst v) w') : wpOp P ops Q i K a w := by
  unfold wpOp
  simp only [hi]
  have hw : Region.wanted o (yielded ops a.tmps) = true := by simp [Region.wanted, hg]
  rw [if_pos hw]
  refine .inl ?_
  unfold Oper.wp
  rw [hr]
  exact h
/-- The three statements' operations: loads, new blocks, appends; what comes behind them waits for the last append. -/
structure Three (P : Program) (ops : Array Oper) (a1 : Act) (W : World) (E : Nat → TypeId) (c : Nat → Value) : Prop where
  size : ops.size = 30
  load : ∀ r, r < 3 → ∃ o, ops[6 + 6 * r]? = some o ∧ o.guard = none ∧ o.dst = some (156 + 6 * r) ∧ (∀ e ∈ o.after, Region.binds .any e = true → e.on < 21 ∧ e.on % 6 = 5) ∧ ∀ (a : Act) (w : World), a.tmps[155 + 6 * r]? = a1.tmps[155 + 6 * r]? → Below W.heap.size W w → (execOp a.eval o).run P w = .ok (.value (.slice none 0 0)) w
  make : ∀ r, r < 3 → ∃ o, ops[7 + 6 * r]? = some o ∧ o.guard = none ∧ o.dst = some (157 + 6 * r) ∧ (∀ e ∈ o.after, Region.binds .any e = false) ∧ ∀ (a : Act) (w : World), (execOp a.eval o).run P w = .ok (.value (.slice (some ⟨w.heap.size, 0, none⟩) 1 1)) (w.alloc (.cells #[c r] (E r)))
  app : ∀ r, r < 3 → ∃ o, ops[8 + 6 * r]? = some o ∧ o.guard = none ∧ o.dst = some (158 + 6 * r) ∧ (∀ e ∈ o.after, Region.binds .any e = true → e.on = 6 + 6 * r ∨ e.on = 7 + 6 * r ∨ (0 < r ∧ e.on = 2 + 6 * r)) ∧
    (∃ e ∈ o.after, Region.binds .any e = true ∧ e.on = 6 + 6 * r) ∧ (∃ e ∈ o.after, Region.binds .any e = true ∧ e.on = 7 + 6 * r) ∧ (0 < r → ∃ e ∈ o.after, Region.binds .any e = true ∧ e.on = 2 + 6 * r) ∧
    ∀ (a : Act) (w : World) (g : Nat), a.tmps[156 + 6 * r]? = some (.slice none 0 0) → a.tmps[157 + 6 * r]? = some (.slice (some ⟨g, 0, none⟩) 1 1) → Blk w g (E r) #[c r] → Below W.heap.size W w → ∃ v w', (execOp a.eval o).run P w = .ok (.value v) w' ∧ w'.ownsRow W.heap.size (E r) 1 v 1 [c r] ∧ Below w.heap.size w w'
  rest : ∀ i o, 21 ≤ i → ops[i]? = some o → ∃ e ∈ o.after, Region.binds .any e = true ∧ e.on = 20
/-- Where the walk stands: what has come up is done. -/
structure ThreeI (W : World) (a1 : Act) (E : Nat → TypeId) (c : Nat → Value) (l : Array Bool) (a : Act) (w : World) : Prop where
  size : l.size = 30
  low : ∀ j, j < 6 → l.getD j false = true
  low2 : ∀ r j, r < 3 → j < 3 → 9 + 6 * r + j < 21 → l.getD (9 + 6 * r + j) false = true
  high : ∀ j, 21 ≤ j → l.getD j false = false
  shut : ∀ r, r < 3 → l.getD (8 + 6 * r) false = true → l.getD (6 + 6 * r) false = true ∧ l.getD (7 + 6 * r) false = true ∧ (0 < r → l.getD (2 + 6 * r) false = true)
  tsize : a.tmps.size = a1.tmps.size
  defers : a.defers = a1.defers
  far : ∀ t, (∀ r, r < 3 → t ≠ 156 + 6 * r ∧ t ≠ 157 + 6 * r ∧ t ≠ 158 + 6 * r) → a.tmps[t]? = a1.tmps[t]?
  load : ∀ r, r < 3 → l.getD (6 + 6 * r) false = true → a.tmps[156 + 6 * r]? = some (.slice none 0 0)
  make : ∀ r, r < 3 → l.getD (7 + 6 * r) false = true → ∃ g, a.tmps[157 + 6 * r]? = some (.slice (some ⟨g, 0, none⟩) 1 1) ∧ Blk w g (E r) #[c r]
  app : ∀ r, r < 3 → l.getD (8 + 6 * r) false = true → ∃ v, a.tmps[158 + 6 * r]? = some v ∧ w.ownsRow W.heap.size (E r) 1 v 1 [c r]
  bel : Below W.heap.size W w
/-- One operation more. -/
theorem ThreeI.step {W : World} {a1 : Act} {E : Nat → TypeId} {c : Nat → Value} {l : Array Bool} {a : Act} {w w' : World} (h : ThreeI W a1 E c l a w) (hb : Below w.heap.size w w') {r k : Nat} (hr : r < 3) (hk : k < 3) (v : Value)
    (hlt : 158 + 6 * r < a1.tmps.size)
    (hshut : k = 2 → l.getD (6 + 6 * r) false = true ∧ l.getD (7 + 6 * r) false = true ∧ (0 < r → l.getD (2 + 6 * r) false = true))
    (h0 : k = 0 → v = .slice none 0 0) (h1 : k = 1 → ∃ g, v = .slice (some ⟨g, 0, none⟩) 1 1 ∧ Blk w' g (E r) #[c r]) (h2 : k = 2 → w'.ownsRow W.heap.size (E r) 1 v 1 [c r]) :
    ThreeI W a1 E c (l.setIfInBounds (6 + k + 6 * r) true) (a.put (some (156 + k + 6 * r)) v) w' := by
  have hcase : ∀ j, (l.setIfInBounds (6 + k + 6 * r) true).getD j false = true → j = 6 + k + 6 * r ∨ l.getD j false = true := by
    intro j hj
    by_cases e : 6 + k + 6 * r = j
    · exact .inl e.symm
    · rw [getD_set_ne false e] at hj; exact .inr hj
  have hself : (a.put (some (156 + k + 6 * r)) v).tmps[156 + k + 6 * r]? = some v := by
    have := h.tsize
    simp [Act.put, show 156 + k + 6 * r < a.tmps.size by omega]
  have hother : ∀ t, 156 + k + 6 * r ≠ t → (a.put (some (156 + k + 6 * r)) v).tmps[t]? = a.tmps[t]? := fun t e => by simp [Act.put, Array.getElem?_setIfInBounds_ne e]
  refine ⟨by simp [h.size], fun j hj => getD_set_true (h.low j hj), fun r' j hr' hj hlt' => getD_set_true (h.low2 r' j hr' hj hlt'), fun j hj => ?_, fun r' hr' ht => ?_, by simp [Act.put, h.tsize], h.defers, fun t ht => ?_, fun r' hr' ht => ?_, fun r' hr' ht => ?_, fun r' hr' ht => ?_, below_step h.bel hb⟩
  · rw [getD_set_ne false (by omega)]; exact h.high j hj
  · rcases hcase _ ht with e | e
    · obtain rfl : k = 2 := by omega
      obtain rfl : r' = r := by omega
      obtain ⟨q1, q2, q3⟩ := hshut rfl
      exact ⟨getD_set_true q1, getD_set_true q2, fun hp => getD_set_true (q3 hp)⟩
    · obtain ⟨q1, q2, q3⟩ := h.shut r' hr' e
      exact ⟨getD_set_true q1, getD_set_true q2, fun hp => getD_set_true (q3 hp)⟩
  · have hne : 156 + k + 6 * r ≠ t := by
      obtain ⟨q1, q2, q3⟩ := ht r hr
      rcases (show k = 0 ∨ k = 1 ∨ k = 2 by omega) with rfl | rfl | rfl <;> omega
    rw [hother t hne]; exact h.far t ht
  · rcases hcase _ ht with e | e
    · obtain rfl : k = 0 := by omega
      obtain rfl : r' = r := by omega
      have := h0 rfl
      subst this
      simpa using hself
    · by_cases e2 : 156 + k + 6 * r = 156 + 6 * r'
      · have e3 : k = 0 := by omega
        have e4 := h0 e3
        rw [← e2, hself, e4]
      · rw [hother _ e2]; exact h.load r' hr' e
  · rcases hcase _ ht with e | e
    · obtain rfl : k = 1 := by omega
      obtain rfl : r' = r := by omega
      obtain ⟨g, q1, q2⟩ := h1 rfl
      subst q1
      exact ⟨g, by simpa using hself, q2⟩
    · by_cases e2 : 156 + k + 6 * r = 157 + 6 * r'
      · obtain rfl : k = 1 := by omega
        obtain rfl : r' = r := by omega
        obtain ⟨g, q1, q2⟩ := h1 rfl
        subst q1
        exact ⟨g, by simpa using hself, q2⟩
      · obtain ⟨g, q1, q2⟩ := h.make r' hr' e
        exact ⟨g, by rw [hother _ e2]; exact q1, q2.below hb q2.lt⟩
  · rcases hcase _ ht with e | e
    · obtain rfl : k = 2 := by omega
      obtain rfl : r' = r := by omega
      exact ⟨v, by simpa using hself, h2 rfl⟩
    · by_cases e2 : 156 + k + 6 * r = 158 + 6 * r'
      · obtain rfl : k = 2 := by omega
        obtain rfl : r' = r := by omega
        exact ⟨v, by simpa using hself, h2 rfl⟩
      · obtain ⟨u, q1, q2⟩ := h.app r' hr' e
        exact ⟨u, by rw [hother _ e2]; exact q1, own_chg q2 (Chg.of_below (S := []) hb) (by simp)⟩
theorem getD_false_true {l : Array Bool} {j : Nat} (h : l.getD j false = true) : l.getD j true = true := by
  rcases Nat.lt_or_ge j l.size with h1 | h1
  · simp [h1] at h ⊢; exact h
  · simp [Array.getElem?_eq_none h1]
theorem getD_true_false {l : Array Bool} {j : Nat} (hj : j < l.size) (h : l.getD j false = false) : l.getD j true = false := by
  simp [hj] at h ⊢; exact h
theorem three_any {a1 : Act} {W : World} {E : Nat → TypeId} {c : Nat → Value} (H : Three P ops a1 W E c) (hsz : 170 < a1.tmps.size)
    (hend : ∀ l a w, ThreeI W a1 E c l a w → (∀ r, r < 3 → l.getD (6 + 6 * r) false = true ∧ l.getD (7 + 6 * r) false = true ∧ l.getD (8 + 6 * r) false = true) → wpAny P .any ops Q (remB ops.size l) l a w) {l : Array Bool} {a : Act} {w : World} (h : ThreeI W a1 E c l a w) :
    ∀ n, remB ops.size l = n → wpAny P .any ops Q n l a w := by
  intro n hn
  refine wpAny_inv (fun l a w => ThreeI W a1 E c l a w) ?_ n l a w hn h
  clear h hn n l a w
  intro l a w h
  cases h20 : l.getD 20 false with
  | true =>
    left
    refine hend l a w h ?_
    obtain ⟨p1, p2, p3⟩ := h.shut 2 (by omega) h20
    obtain ⟨q1, q2, q3⟩ := h.shut 1 (by omega) (p3 (by omega))
    obtain ⟨s1, s2, _⟩ := h.shut 0 (by omega) (q3 (by omega))
    intro r hr
    match r, hr with
    | 0, _ => exact ⟨s1, s2, q3 (by omega)⟩
    | 1, _ => exact ⟨q1, q2, p3 (by omega)⟩
    | 2, _ => exact ⟨p1, p2, h20⟩
  | false =>
    right
    constructor
    · -- something may come up
      have hmin : ∃ r, r < 3 ∧ l.getD (8 + 6 * r) false = false ∧ (0 < r → l.getD (2 + 6 * r) false = true) := by
        cases h8 : l.getD 8 false with
        | false => exact ⟨0, by omega, h8, by omega⟩
        | true =>
          cases h14 : l.getD 14 false with
          | false => exact ⟨1, by omega, h14, fun _ => h8⟩
          | true => exact ⟨2, by omega, h20, fun _ => h14⟩
      obtain ⟨r, hr, hA, hP⟩ := hmin
      intro h0
      have no : ∀ i, i ∈ Region.ready .any ops l → False := fun i hi => by rw [h0] at hi; cases hi
      obtain ⟨oL, l1, l2, l3, l4, _⟩ := H.load r hr
      obtain ⟨oB, b1, b2, b3, b4, _⟩ := H.make r hr
      obtain ⟨oA, a1', a2, a3, a4, _⟩ := H.app r hr
      cases hL : l.getD (6 + 6 * r) false with
      | false =>
        refine no (6 + 6 * r) (mem_ready.2 ⟨getD_true_false (by rw [h.size]; omega) hL, oL, l1, fun e he hb => ?_⟩)
        obtain ⟨e1, e2⟩ := l4 e he hb
        rcases (show e.on < 6 ∨ e.on = 11 ∨ e.on = 17 by omega) with q | q | q
        · exact h.low _ q
        · rw [q]; exact h.low2 0 2 (by omega) (by omega) (by omega)
        · rw [q]; exact h.low2 1 2 (by omega) (by omega) (by omega)
      | true =>
        cases hB : l.getD (7 + 6 * r) false with
        | false =>
          refine no (7 + 6 * r) (mem_ready.2 ⟨getD_true_false (by rw [h.size]; omega) hB, oB, b1, fun e he hb => ?_⟩)
          rw [b4 e he] at hb; cases hb
        | true =>
          refine no (8 + 6 * r) (mem_ready.2 ⟨getD_true_false (by rw [h.size]; omega) hA, oA, a1', fun e he hb => ?_⟩)
          rcases a4 e he hb with q | q | ⟨q1, q⟩
          · rw [q]; exact hL
          · rw [q]; exact hB
          · rw [q]; exact hP q1
    · intro i hi
      obtain ⟨hun, o, ho, hall⟩ := mem_ready.1 hi
      have hlt : i < 30 := by have := (Array.getElem?_eq_some_iff.1 ho).1; rw [H.size] at this; exact this
      have h21 : i < 21 := by
        rcases Nat.lt_or_ge i 21 with q | q
        · exact q
        · obtain ⟨e, he, hb, hon⟩ := H.rest i o q ho
          have := hall e he hb
          rw [hon, h20] at this; cases this
      have hnot : ∀ j, l.getD j false = true → i ≠ j := by
        intro j hj e
        subst e
        rw [getD_false_true hj] at hun; cases hun
      have hwhere : ∃ r k, r < 3 ∧ k < 3 ∧ i = 6 + k + 6 * r := by
        rcases Nat.lt_or_ge i 6 with q | q
        · exact absurd rfl (hnot i (h.low i q))
        · rcases (show (i - 6) % 6 < 3 ∨ 3 ≤ (i - 6) % 6 by omega) with q2 | q2
          · exact ⟨(i - 6) / 6, (i - 6) % 6, by omega, q2, by omega⟩
          · have e : i = 9 + 6 * ((i - 6) / 6) + ((i - 6) % 6 - 3) := by omega
            exact absurd e (hnot _ (h.low2 _ _ (by omega) (by omega) (by omega)))
      obtain ⟨r, k, hr, hk, rfl⟩ := hwhere
      have hfar : ∀ r', r' < 3 → a.tmps[155 + 6 * r']? = a1.tmps[155 + 6 * r']? := fun r' _ => h.far _ (fun r2 _ => by omega)
      rcases (show k = 0 ∨ k = 1 ∨ k = 2 by omega) with rfl | rfl | rfl
      · obtain ⟨oL, l1, l2, l3, l4, l5⟩ := H.load r hr
        refine wpOp_run (show ops[6 + 0 + 6 * r]? = some oL by simpa using l1) l2 (l5 a w (hfar r hr) h.bel) ?_
        rw [l3]
        exact h.step (k := 0) (Below.refl _ _) hr (by omega) _ (by omega) (fun e => by omega) (fun _ => rfl) (fun e => by omega) (fun e => by omega)
      · obtain ⟨oB, b1, b2, b3, b4, b5⟩ := H.make r hr
        refine wpOp_run (show ops[6 + 1 + 6 * r]? = some oB by rw [← b1]) b2 (b5 a w) ?_
        rw [b3]
        exact h.step (k := 1) ((Below.refl _ _).alloc (Nat.le_refl _) _) hr (by omega) _ (by omega) (fun e => by omega) (fun e => by omega) (fun _ => ⟨_, rfl, Blk.new w (E r) #[c r]⟩) (fun e => by omega)
      · obtain ⟨oA, q1, q2, q3, q4, ⟨e1, q5, q6, q7⟩, ⟨e2, q8, q9, q10⟩, q11, q12⟩ := H.app r hr
        have ho' : o = oA := by
          have : ops[6 + 2 + 6 * r]? = some oA := by rw [← q1]
          rw [this] at ho; injection ho with ho; exact ho.symm
        subst ho'
        have hL := hall e1 q5 q6
        have hB := hall e2 q8 q9
        rw [q7] at hL
        rw [q10] at hB
        have hP : 0 < r → l.getD (2 + 6 * r) false = true := fun hp => by
          obtain ⟨e3, z1, z2, z3⟩ := q11 hp
          have := hall e3 z1 z2
          rw [z3] at this; exact this
        obtain ⟨g, g1, g2⟩ := h.make r hr hB
        obtain ⟨v, w', r1, r2, r3⟩ := q12 a w g (h.load r hr hL) g1 g2 h.bel
        refine wpOp_run ho q2 r1 ?_
        rw [q3]
        exact h.step (k := 2) r3 hr (by omega) v (by omega) (fun _ => ⟨hL, hB, hP⟩) (fun e => by omega) (fun e => by omega) (fun _ => r2)
theorem highB : ∀ j, j < 30 → 21 ≤ j → (#[true, true, true, true, true, true, false, false, false, true, true, true, false, false, false, true, true, true, false, false, false, false, false, false, false, false, false, false, false, false] : Array Bool).getD j false = false := by decide
theorem ThreeI.start {W w : World} {E : Nat → TypeId} {c : Nat → Value} {l : Array Bool} {a : Act} (hl : l = #[true, true, true, true, true, true, false, false, false, true, true, true, false, false, false, true, true, true, false, false, false, false, false, false, false, false, false, false, false, false]) (hb : Below W.heap.size W w) : ThreeI W a E c l a w := by
  subst hl
  refine ⟨rfl, fun j hj => ?_, fun r j hr hj hlt => ?_, fun j hj => ?_, fun r hr h => ?_, rfl, rfl, fun _ _ => rfl, fun r hr h => ?_, fun r hr h => ?_, fun r hr h => ?_, hb⟩
  · match j, hj with
    | 0, _ => rfl | 1, _ => rfl | 2, _ => rfl | 3, _ => rfl | 4, _ => rfl | 5, _ => rfl
  · match r, hr, j, hj with
    | 0, _, 0, _ => rfl | 0, _, 1, _ => rfl | 0, _, 2, _ => rfl
    | 1, _, 0, _ => rfl | 1, _, 1, _ => rfl | 1, _, 2, _ => rfl
    | 2, _, 0, _ => omega | 2, _, 1, _ => omega | 2, _, 2, _ => omega
  · rcases Nat.lt_or_ge j 30 with h | h
    · exact highB j h hj
    · simp [Array.getElem?_eq_none (show (#[true, true, true, true, true, true, false, false, false, true, true, true, false, false, false, true, true, true, false, false, false, false, false, false, false, false, false, false, false, false] : Array Bool).size ≤ j from h)]
  · match r, hr, h with
    | 0, _, h => cases h | 1, _, h => cases h | 2, _, h => cases h
  · match r, hr, h with
    | 0, _, h => cases h | 1, _, h => cases h | 2, _, h => cases h
  · match r, hr, h with
    | 0, _, h => cases h | 1, _, h => cases h | 2, _, h => cases h
  · match r, hr, h with
    | 0, _, h => cases h | 1, _, h => cases h | 2, _, h => cases h
def fullB : Array Bool := #[true, true, true, true, true, true, true, true, true, true, true, true, true, true, true, true, true, true, true, true, true, false, false, false, false, false, false, false, false, false]
theorem fullB_low : ∀ i, i < 21 → fullB.getD i false = true := by decide
theorem fullB_high : ∀ i, i < 30 → 21 ≤ i → fullB.getD i false = false := by decide
def putsA (a : Act) (x0 v0 x1 v1 x2 v2 : Value) : Act := ((((((((a.put (some 156) (.slice none 0 0)).put (some 157) x0).put (some 158) v0).put (some 162) (.slice none 0 0)).put (some 163) x1).put (some 164) v1).put (some 168) (.slice none 0 0)).put (some 169) x2).put (some 170) v2
theorem put_defersS (a : Act) (d : Tmp) (v : Value) : (a.put (some d) v).defers = a.defers := rfl
theorem put_tmpsS (a : Act) (d : Tmp) (v : Value) : (a.put (some d) v).tmps = a.tmps.setIfInBounds d v := rfl
theorem act_ext {a b : Act} (h1 : a.tmps = b.tmps) (h2 : a.defers = b.defers) : a = b := by cases a; cases b; simp_all
theorem ThreeI.done {W : World} {a1 : Act} {E : Nat → TypeId} {c : Nat → Value} {l : Array Bool} {a : Act} {w : World} (h : ThreeI W a1 E c l a w) (hsz : 170 < a1.tmps.size) (hall : ∀ r, r < 3 → l.getD (6 + 6 * r) false = true ∧ l.getD (7 + 6 * r) false = true ∧ l.getD (8 + 6 * r) false = true) :
    l = fullB ∧ ∃ x0 v0 x1 v1 x2 v2, a = putsA a1 x0 v0 x1 v1 x2 v2 ∧ w.ownsRow W.heap.size (E 0) 1 v0 1 [c 0] ∧ w.ownsRow W.heap.size (E 1) 1 v1 1 [c 1] ∧ w.ownsRow W.heap.size (E 2) 1 v2 1 [c 2] := by
  constructor
  · apply Array.ext
    · rw [h.size]; rfl
    · intro i hi1 hi2
      rw [h.size] at hi1
      have e : l.getD i false = fullB.getD i false := by
        rcases Nat.lt_or_ge i 6 with q | q
        · rw [h.low i q]
          exact (fullB_low i (by omega)).symm
        rcases Nat.lt_or_ge i 21 with q2 | q2
        · have e2 : fullB.getD i false = true := fullB_low i q2
          rw [e2]
          have hr : (i - 6) / 6 < 3 := by omega
          obtain ⟨z1, z2, z3⟩ := hall _ hr
          rcases (show (i - 6) % 6 = 0 ∨ (i - 6) % 6 = 1 ∨ (i - 6) % 6 = 2 ∨ 3 ≤ (i - 6) % 6 by omega) with k | k | k | k
          · rw [show i = 6 + 6 * ((i - 6) / 6) by omega]; exact z1
          · rw [show i = 7 + 6 * ((i - 6) / 6) by omega]; exact z2
          · rw [show i = 8 + 6 * ((i - 6) / 6) by omega]; exact z3
          · rw [show i = 9 + 6 * ((i - 6) / 6) + ((i - 6) % 6 - 3) by omega]
            exact h.low2 _ _ hr (by omega) (by omega)
        · rw [h.high i q2]
          exact (fullB_high i hi1 q2).symm
      have e1 : l.getD i false = l[i] := by simp [h.size, hi1]
      have e3 : fullB.getD i false = fullB[i] := by rw [Array.getD_eq_getD_getElem?, Array.getElem?_eq_getElem hi2]; rfl
      rw [← e1, e, e3]
  · obtain ⟨p0, p1, p2⟩ := hall 0 (by omega)
    obtain ⟨q0, q1, q2⟩ := hall 1 (by omega)
    obtain ⟨s0, s1, s2⟩ := hall 2 (by omega)
    have l0 := h.load 0 (by omega) p0; have l1 := h.load 1 (by omega) q0; have l2 := h.load 2 (by omega) s0
    obtain ⟨g0, m0, _⟩ := h.make 0 (by omega) p1
    obtain ⟨g1, m1, _⟩ := h.make 1 (by omega) q1
    obtain ⟨g2, m2, _⟩ := h.make 2 (by omega) s1
    obtain ⟨v0, a0, o0⟩ := h.app 0 (by omega) p2
    obtain ⟨v1, a1', o1⟩ := h.app 1 (by omega) q2
    obtain ⟨v2, a2, o2⟩ := h.app 2 (by omega) s2
    refine ⟨.slice (some ⟨g0, 0, none⟩) 1 1, v0, .slice (some ⟨g1, 0, none⟩) 1 1, v1, .slice (some ⟨g2, 0, none⟩) 1 1, v2, act_ext ?_ ?_, o0, o1, o2⟩
    rotate_left
    · simp only [putsA, put_defersS]
      exact h.defers
    apply Array.ext_getElem?
    intro i
    simp only [putsA, put_tmpsS]
    simp only [Array.getElem?_setIfInBounds, Array.size_setIfInBounds]
    by_cases e8 : 170 = i
    · subst e8; simpa [hsz] using a2
    by_cases e7 : 169 = i
    · subst e7; simpa [show 169 < a1.tmps.size by omega] using m2
    by_cases e6 : 168 = i
    · subst e6; simpa [show 168 < a1.tmps.size by omega] using l2
    by_cases e5 : 164 = i
    · subst e5; simpa [show 164 < a1.tmps.size by omega] using a1'
    by_cases e4 : 163 = i
    · subst e4; simpa [show 163 < a1.tmps.size by omega] using m1
    by_cases e3 : 162 = i
    · subst e3; simpa [show 162 < a1.tmps.size by omega] using l1
    by_cases e2 : 158 = i
    · subst e2; simpa [show 158 < a1.tmps.size by omega] using a0
    by_cases e1 : 157 = i
    · subst e1; simpa [show 157 < a1.tmps.size by omega] using m0
    by_cases e0 : 156 = i
    · subst e0; simpa [show 156 < a1.tmps.size by omega] using l0
    simp [e0, e1, e2, e3, e4, e5, e6, e7, e8]
    refine h.far i fun r hr => ?_
    match r, hr with
    | 0, _ => exact ⟨by omega, by omega, by omega⟩
    | 1, _ => exact ⟨by omega, by omega, by omega⟩
    | 2, _ => exact ⟨by omega, by omega, by omega⟩
/-- A slot that is written, as an operation: the walk writes the frame out. -/
theorem wpList_fake {P : Program} {ops : Array Oper} {Q : Exit → Act → World → Prop} {rest : List Oper} {a : Act} {w : World} (d : Tmp) (v : Value) (h : wpList P ops Q ({ dst := some d, op := .move (.const v), type := 0, pos := "", after := #[], guard := none } :: rest) a w) : wpList P ops Q rest (a.put (some d) v) w := by
  have this : wpList P ops Q rest (a.put (some d) v) w ∨ noRoomEvent ∈ Sem.events P (pure (Next.value v)) w #[] ∧ LetsOut Q := by
    have := h
    simpa [wpList, Oper.wp, Oper.upon, execOp, Region.wanted, Act.eval, Oper.asks, Sem.runT] using this
  rcases this with h | ⟨h, _⟩
  · exact h
  · rw [show Sem.events P (pure (Next.value v)) w #[] = #[] from rfl] at h
    simp at h
theorem three_tail {P : Program} {Q : Exit → Act → World → Prop} {l : List Oper} {a1 : Act} {W w : World} {E : Nat → TypeId} {c : Nat → Value} {b : Array Bool} (H : Three P l.toArray a1 W E c) (hsz : 170 < a1.tmps.size) (hw : Below W.heap.size W w)
    (hb : b = #[true, true, true, true, true, true, false, false, false, true, true, true, false, false, false, true, true, true, false, false, false, false, false, false, false, false, false, false, false, false]) (hseq : Region.seqB .any l.toArray 9 21 fullB = true)
    (h : ∀ x0 v0 x1 v1 x2 v2 w', Below W.heap.size W w' → w'.ownsRow W.heap.size (E 0) 1 v0 1 [c 0] → w'.ownsRow W.heap.size (E 1) 1 v1 1 [c 1] → w'.ownsRow W.heap.size (E 2) 1 v2 1 [c 2] → wpList P l.toArray Q (l.drop 21) (putsA a1 x0 v0 x1 v1 x2 v2) w') : wpAny P .any l.toArray Q 18 b a1 w := by
  have hl : l.length = 30 := by simpa using H.size
  refine three_any H hsz ?_ (ThreeI.start hb hw) 18 (by subst hb; rw [H.size]; rfl)
  intro l2 a w2 hI hall
  obtain ⟨rfl, x0, v0, x1, v1, x2, v2, rfl, o0, o1, o2⟩ := hI.done hsz hall
  have := wpAny_of_seq (md := .any) (P := P) (ops := l.toArray) (Q' := Q) (l.drop 21) 21 fullB (putsA a1 x0 v0 x1 v1 x2 v2) w2 (fun j => by simp [List.getElem?_drop]) (by rw [List.length_drop, hl]; exact hseq) (h x0 v0 x1 v1 x2 v2 w2 hI.bel o0 o1 o2)
  rw [List.length_drop, hl] at this
  rw [H.size]
  exact this
end
end Go.Proofs.YtnepogddjinpoaaGreatDoor

namespace Go.Proofs.YtnepogddjinpoaaGreatDoor
open Go.RowKit
set_option linter.unusedVariables false
set_option linter.unusedSimpArgs false

theorem info_unit : (Tryz.prog.info? 59).map (fun i => (i.zero, i.size, i.bytes)) = some (some (.agg #[.string ⟨#[]⟩, .int .i64 0, .string ⟨#[]⟩, .string ⟨#[]⟩, .int .u8 0, .string ⟨#[]⟩, .string ⟨#[]⟩, .int .i64 0, .string ⟨#[]⟩, .int .i64 0, .string ⟨#[]⟩, .string ⟨#[]⟩, .int .u8 0, .string ⟨#[]⟩, .string ⟨#[]⟩, .int .i64 0, .string ⟨#[]⟩, .slice none 0 0]), 18, 248) := by kernel_rfl
abbrev unit0 : List Value := [.string ⟨#[]⟩, .int .i64 0, .string ⟨#[]⟩, .string ⟨#[]⟩, .int .u8 0, .string ⟨#[]⟩, .string ⟨#[]⟩, .int .i64 0, .string ⟨#[]⟩, .int .i64 0, .string ⟨#[]⟩, .string ⟨#[]⟩, .int .u8 0, .string ⟨#[]⟩, .string ⟨#[]⟩, .int .i64 0, .string ⟨#[]⟩, .slice none 0 0]
theorem load_run {T : TypeId} {t : Tmp} {o : Oper} (hT : T = 112 ∨ T = 113) (ho : o.op = Op.load T (.tmp t)) {a : Act} {w : World} {p : Addr} (he : a.tmps[t]? = some (.pointer (some p))) (hc : w.cell? p = some (.slice none 0 0)) : (execOp a.eval o).run Tryz.prog w = .ok (.value (.slice none 0 0)) w := by
  unfold execOp
  rw [ho]
  rcases hT with rfl | rfl <;> simp [he, hc, go_sem]
theorem info_boolU : (Tryz.prog.info? 4).map (fun i => (i.zero, i.size, i.bytes)) = some (some (.bool false), 1, 1) := by kernel_rfl
theorem info_intU : (Tryz.prog.info? 3).map (fun i => (i.zero, i.size, i.bytes)) = some (some (.int .i64 0), 1, 8) := by kernel_rfl
theorem make_run_t {o : Oper} (ho : o.op = Op.buildSlice 112 1 #[(0, .const (.bool true))]) (a : Act) (w : World) : (execOp a.eval o).run Tryz.prog w = .ok (.value (.slice (some ⟨w.heap.size, 0, none⟩) 1 1)) (w.alloc (.cells #[.bool true] 4)) := by
  unfold execOp; rw [ho]; simp [go_sem]
theorem make_run_f {o : Oper} (ho : o.op = Op.buildSlice 112 1 #[(0, .const (.bool false))]) (a : Act) (w : World) : (execOp a.eval o).run Tryz.prog w = .ok (.value (.slice (some ⟨w.heap.size, 0, none⟩) 1 1)) (w.alloc (.cells #[.bool false] 4)) := by
  unfold execOp; rw [ho]; simp [go_sem]
theorem make_run_i {o : Oper} (ho : o.op = Op.buildSlice 113 1 #[(0, .const (.int .i64 0))]) (a : Act) (w : World) : (execOp a.eval o).run Tryz.prog w = .ok (.value (.slice (some ⟨w.heap.size, 0, none⟩) 1 1)) (w.alloc (.cells #[.int .i64 0] 3)) := by
  unfold execOp; rw [ho]; simp [go_sem]
theorem app_run {T E : TypeId} {i : TypeInfo} {z : Value} {bytes : Nat} (hT : Tryz.prog.underlying T = some (.slice E)) (hi : Tryz.prog.info? E = some i) (hz : i.zero = some z) (hs : i.size = 1) (hby : i.bytes = bytes) (hb8 : bytes ≤ 8) (hz1 : z.cells.size = 1) {x y : Tmp} {o : Oper} (ho : o.op = .call { callee := .builtin .append, args := #[.tmp x, .tmp y], argTypes := #[T, T] }) {a : Act} {w W : World} {g : Nat} {c : Value} (hc1 : c.oneCell' = true) (hx : a.tmps[x]? = some (.slice none 0 0)) (hy : a.tmps[y]? = some (.slice (some ⟨g, 0, none⟩) 1 1)) (K : Blk w g E #[c]) (hW : Below W.heap.size W w) :
    ∃ v w', (execOp a.eval o).run Tryz.prog w = .ok (.value v) w' ∧ w'.ownsRow W.heap.size E 1 v 1 [c] ∧ Below w.heap.size w w' := by
  have hx' : a.eval (.tmp x) = .slice none 0 0 := by simp [Act.eval, hx]
  have hy' : a.eval (.tmp y) = .slice (some ⟨g, 0, none⟩) 1 1 := by simp [Act.eval, hy]
  obtain ⟨g2, cap, w', hr, h2, h3, _, _⟩ := run_append_lies (P := Tryz.prog) w T o.type W.heap.size E i z 1 bytes hT hi hz hs hby hz1 (by decide) (.slice none 0 0) 0 [] (World.ownsRow_nil _ _ _ _) ⟨g, 0, none⟩ 1 1 [c] rfl (by intro j u hj; rw [zaddE]; exact (AtB.of_blk (cs := [c]) K).cell j u hj) (by intro u hu; simp at hu; subst hu; exact hc1) (by omega) (by unfold maxLen; omega) (by omega) hW.size w.heap.size rfl
  refine ⟨_, w', ?_, h2, ?_⟩
  · unfold execOp
    simp only [ho, resolve, invoke, builtin, Sem.run_bind, Sem.run_pure, Result.andThen_ok, List.map_toArray, List.map_cons, List.map_nil, hx', hy', hr]
  · exact (Below.refl _ _).grown h3 (Nat.le_refl _) (fun k e => by cases e)
theorem AtB.set_ {w : World} {g : Nat} {cs : List Value} (h : AtB w g cs) (i : Nat) (u : Value) (hi : i < cs.length) : AtB (w.setCell ⟨g, i, none⟩ u) g (cs.set i u) := by
  refine ⟨by have := h.lt; simpa using this, fun j v hv => ?_⟩
  rw [List.getElem?_set] at hv
  by_cases e : i = j
  · subst e
    simp [hi] at hv
    subst hv
    exact World.cell?_setCell_same w ⟨g, i, none⟩ u (h.cell i _ (List.getElem?_eq_getElem hi))
  · simp [e] at hv
    rw [World.cell?_setCell_other w ⟨g, i, none⟩ ⟨g, j, none⟩ u (by intro q; injection q with _ q; first | exact e q | exact e q.symm)]
    exact h.cell j v hv
theorem AtB.drew {w : World} {g : Nat} {cs : List Value} (h : AtB w g cs) : AtB w.drew g cs := ⟨h.lt, h.cell⟩
abbrev unitE (gn cn : Nat) : List Value := [.string ⟨#[]⟩, .int .i64 0, .string ⟨#[]⟩, .string ⟨#[]⟩, .int .u8 0, .string ⟨#[]⟩, .string ⟨#[]⟩, .int .i64 0, .string ⟨#[]⟩, .int .i64 0, .string ⟨#[]⟩, .string ⟨#[]⟩, .int .u8 0, .string ⟨#[]⟩, .string ⟨#[]⟩, .int .i64 0, .string ⟨#[]⟩, .slice (some ⟨gn, 0, none⟩) 3 cn]
theorem find22_ex (w : World) (N gd g c : Nat) (vp : Value) (h : ExD w N gd g c vp) : Calls Tryz.prog 85 #[.slice (some ⟨gd, 0, none⟩) 1 1, .string ⟨#[]⟩] w fun e w' => e = .returned (.int .i64 0) ∧ w = w' := by
  have n0 := h.d.cell 0 _ rfl
  have lg := h.d.lt
  go_enter Tryz.func85, Tryz.ntmps85
  go_wp2_with fail
  refine wp_loop_rounds 1 ?_
  rw [rounds_succ]
  go_wp2_with fail
  go_ret
  exact ⟨rfl, rfl⟩
set_option maxHeartbeats 8000000 in
set_option maxRecDepth 100000 in
theorem unit25_ex (w : World) (b N gd g c : Nat) (vp : Value) (K : Blk w b 115 #[.slice (some ⟨gd, 0, none⟩) 1 1, .slice none 0 0, .slice none 0 0, .slice none 0 0, .slice none 0 0, .int .i64 0, .int .i64 0, .int .i64 0]) (D : ∀ w', Chg [b] w w' → ExD w' N gd g c vp) :
    Calls Tryz.prog 57 #[.pointer (some ⟨b, 0, none⟩), .string ⟨#[]⟩, st0, .int .i64 0] w fun e w' => e = .returned (.tuple #[.int .i64 0, st0, .bool true]) ∧ ∃ gu cu gn cn v2 v3 v4, Chg [b] w w' ∧ Blk w' b 115 #[.slice (some ⟨gd, 0, none⟩) 1 1, .slice (some ⟨gu, 0, none⟩) 1 cu, v2, v3, v4, .int .i64 0, .int .i64 0, .int .i64 0] ∧ AtB w' gu (unitE gn cn) ∧ AtB w' gn (exNodesE vp) ∧ ExPipe w' N vp ∧ w.heap.size ≤ gu ∧ w.heap.size ≤ gn := by
  obtain ⟨i0, hi, hz0, hz1, hz2⟩ := info_parts info_unit
  have HD := hide D
  clear D
  have k0 := K.cell 0; have k1 := K.cell 1; have k2 := K.cell 2; have k3 := K.cell 3; have k4 := K.cell 4; have k5 := K.cell 5; have k6 := K.cell 6; have k7 := K.cell 7; simp at k0 k1 k2 k3 k4 k5 k6 k7
  have f0 := K.frozen 0; have f1 := K.frozen 1; have f2 := K.frozen 2; have f3 := K.frozen 3; have f4 := K.frozen 4; have f5 := K.frozen 5; have f6 := K.frozen 6; have f7 := K.frozen 7
  have lb := K.lt
  go_enter Tryz.func57, Tryz.ntmps57
  go_wp2_with fail
  refine wp_loop_rounds 1 ?_
  rw [rounds_succ]
  go_wp2_with fail
  refine name_code fun W hW => ?_
  have C1 : Chg [] w W := by subst hW; (repeat' (first | with_reducible exact Chg.refl _ _ | with_reducible refine Chg.alloc ?_ _ | with_reducible refine Chg.drew ?_ | with_reducible refine Chg.drewN ?_ _ | with_reducible refine Chg.set_ ?_ _ _ (by first | (simp; done) | (simp; omega) | omega)))
  have KF : Blk W w.heap.size 57 st0c := by subst hW; (repeat' (first | with_reducible exact Blk.new_ (by first | rfl | (simp; done) | (simp; omega)) | with_reducible refine Blk.alloc_ ?_ | with_reducible refine Blk.drew ?_ | with_reducible refine Blk.drewN ?_ _ | with_reducible refine Blk.far_ ?_ (by first | (simp; done) | (simp; omega) | omega) | with_reducible apply Blk.set_eq | rfl))
  have KR : Blk W (w.heap.size + 1) 57 st0c := by subst hW; (repeat' (first | with_reducible exact Blk.new_ (by first | rfl | (simp; done) | (simp; omega)) | with_reducible refine Blk.alloc_ ?_ | with_reducible refine Blk.drew ?_ | with_reducible refine Blk.drewN ?_ _ | with_reducible refine Blk.far_ ?_ (by first | (simp; done) | (simp; omega) | omega) | with_reducible apply Blk.set_eq | rfl))
  have KB := K.chg C1 (by simp)
  clear hW k0 k1 k2 k3 k4 k5 k6 k7 f0 f1 f2 f3 f4 f5 f6 f7
  have k0 := KB.cell 0; have k1 := KB.cell 1; have k2 := KB.cell 2; have k3 := KB.cell 3; have k4 := KB.cell 4; have k5 := KB.cell 5; have k6 := KB.cell 6; have k7 := KB.cell 7; simp at k0 k1 k2 k3 k4 k5 k6 k7
  have f0 := KB.frozen 0; have f1 := KB.frozen 1; have f2 := KB.frozen 2; have f3 := KB.frozen 3; have f4 := KB.frozen 4; have f5 := KB.frozen 5; have f6 := KB.frozen 6; have f7 := KB.frozen 7
  have s0 := KF.cell 0; have s1 := KF.cell 1; have s2 := KF.cell 2; have s3 := KF.cell 3; have s4 := KF.cell 4; have s5 := KF.cell 5; have s6 := KF.cell 6; have s7 := KF.cell 7; simp at s0 s1 s2 s3 s4 s5 s6 s7
  have ls := KF.lt; have lr := KR.lt; have lb2 := KB.lt
  have HK := hide (And.intro C1 (And.intro KF (And.intro KR KB)))
  clear C1 KF KR KB K
  go_upto_region 15 with (fail)
  go_cut [12] from 138 to 149 (fun s12 wx => s12 = .int .i64 0 ∧ ∃ g4 cp4, Hid (Blk wx b 115 #[.slice (some ⟨gd, 0, none⟩) 1 1, .slice (some ⟨g4, 0, none⟩) 1 cp4, .slice none 0 0, .slice none 0 0, .slice none 0 0, .int .i64 0, .int .i64 0, .int .i64 0] ∧ wx.ownsRow W.heap.size 59 18 (.slice (some ⟨g4, 0, none⟩) 1 cp4) 1 unit0 ∧ Chg [b] W wx))
  case first =>
    go_region_law (first
      | (refine step_append_lies _ rfl (.tmp 142) (.tmp 146) 47 rfl W.heap.size 59 i0 _ 18 248 Tryz.underlying47 hi hz0 hz1 hz2 rfl (by decide) (.slice none 0 0) 0 [] rfl (World.ownsRow_nil _ _ _ _) ⟨W.heap.size, 0, none⟩ 1 1 unit0 rfl rfl (by intro j u hj; match j, hj with | 0, hj => (simp at hj; subst hj; simp [Addr.add]) | 1, hj => (simp at hj; subst hj; simp [Addr.add]) | 2, hj => (simp at hj; subst hj; simp [Addr.add]) | 3, hj => (simp at hj; subst hj; simp [Addr.add]) | 4, hj => (simp at hj; subst hj; simp [Addr.add]) | 5, hj => (simp at hj; subst hj; simp [Addr.add]) | 6, hj => (simp at hj; subst hj; simp [Addr.add]) | 7, hj => (simp at hj; subst hj; simp [Addr.add]) | 8, hj => (simp at hj; subst hj; simp [Addr.add]) | 9, hj => (simp at hj; subst hj; simp [Addr.add]) | 10, hj => (simp at hj; subst hj; simp [Addr.add]) | 11, hj => (simp at hj; subst hj; simp [Addr.add]) | 12, hj => (simp at hj; subst hj; simp [Addr.add]) | 13, hj => (simp at hj; subst hj; simp [Addr.add]) | 14, hj => (simp at hj; subst hj; simp [Addr.add]) | 15, hj => (simp at hj; subst hj; simp [Addr.add]) | 16, hj => (simp at hj; subst hj; simp [Addr.add]) | 17, hj => (simp at hj; subst hj; simp [Addr.add])) (by intro u hu; simp at hu; rcases hu with rfl | rfl | rfl | rfl | rfl | rfl | rfl | rfl | rfl | rfl | rfl | rfl | rfl | rfl | rfl | rfl | rfl | rfl <;> rfl) (by omega) (by unfold maxLen; omega) (by omega) (by first | (simp; done) | (simp; omega)) (W.heap.size + 1) (by simp) ?_
         intro g4 cp4 w4 hown4 hgrow4 hat4 hlt4
         have KB4 : Blk w4 b 115 #[.slice (some ⟨gd, 0, none⟩) 1 1, .slice none 0 0, .slice none 0 0, .slice none 0 0, .slice none 0 0, .int .i64 0, .int .i64 0, .int .i64 0] := Blk.grown (by (repeat' (first | with_reducible exact HK.out.2.2.2 | with_reducible exact Blk.new_ (by first | rfl | (simp; done) | (simp; omega)) | with_reducible refine Blk.alloc_ ?_ | with_reducible refine Blk.drew ?_ | with_reducible refine Blk.drewN ?_ _ | with_reducible refine Blk.far_ ?_ (by first | (simp; done) | (simp; omega) | omega) | with_reducible apply Blk.set_eq | rfl))) hgrow4 (by intro e; cases e)
         have HG := hide (And.intro hown4 (Chg.grown (S := []) (by (repeat' (first | with_reducible exact Chg.refl _ _ | with_reducible refine Chg.alloc ?_ _ | with_reducible refine Chg.drew ?_ | with_reducible refine Chg.drewN ?_ _ | with_reducible refine Chg.set_ ?_ _ _ (by first | (simp; done) | (simp; omega) | omega))) : Chg [] W _) hgrow4 (by intro k e; cases e)))
         have HKB4 := hide KB4
         have fz := KB4.frozen 1
         have cz := KB4.cell 1
         simp at cz
         clear KB4
         clear hown4 hgrow4 hat4))
    all_goals
      go_wp2_with fail
      go_meet
      refine ⟨rfl, g4, cp4, ?_⟩
      refine name_it (C := fun W => Hid (Blk W b _ _ ∧ W.ownsRow _ _ _ _ _ _ ∧ Chg [b] _ W)) fun W5 hW5 => ?_
      refine ⟨by subst hW5; (repeat' (first | with_reducible exact HKB4.out | with_reducible exact Blk.new_ (by first | rfl | (simp; done) | (simp; omega)) | with_reducible refine Blk.alloc_ ?_ | with_reducible refine Blk.drew ?_ | with_reducible refine Blk.drewN ?_ _ | with_reducible refine Blk.far_ ?_ (by first | (simp; done) | (simp; omega) | omega) | with_reducible apply Blk.set_eq | rfl)), by subst hW5; exact own_chg HG.out.1 (S := [b]) (by (repeat' (first | with_reducible exact Chg.refl _ _ | with_reducible refine Chg.alloc ?_ _ | with_reducible refine Chg.drew ?_ | with_reducible refine Chg.drewN ?_ _ | with_reducible refine Chg.set_ ?_ _ _ (by first | (simp; done) | (simp; omega) | omega)))) (by intro k hk hm; have := (HG.out.1.lt k hk).1; simp at hm; omega), ?_⟩
      have C9 := HG.out.2.mono (S' := [b]) (by intro x hx; cases hx)
      subst hW5
      (repeat' (first | with_reducible exact C9 | with_reducible exact Chg.refl _ _ | with_reducible refine Chg.alloc ?_ _ | with_reducible refine Chg.drew ?_ | with_reducible refine Chg.drewN ?_ _ | with_reducible refine Chg.set_ ?_ _ _ (by first | (simp; done) | (simp; omega) | omega)))
  case rest =>
    obtain ⟨rfl, g4, cp4, hcut⟩ := hcut
    have HC := hide hcut
    clear hcut
    have KB5 := HC.out.1
    have lb5 := KB5.lt
    clear k0 k1 k2 k3 k4 k5 k6 k7 f0 f1 f2 f3 f4 f5 f6 f7 s0 s1 s2 s3 s4 s5 s6 s7
    have k0 := KB5.cell 0; have k1 := KB5.cell 1; have k2 := KB5.cell 2; have k3 := KB5.cell 3; have k4 := KB5.cell 4; have k5 := KB5.cell 5; have k6 := KB5.cell 6; have k7 := KB5.cell 7; simp at k0 k1 k2 k3 k4 k5 k6 k7
    have f0 := KB5.frozen 0; have f1 := KB5.frozen 1; have f2 := KB5.frozen 2; have f3 := KB5.frozen 3; have f4 := KB5.frozen 4; have f5 := KB5.frozen 5; have f6 := KB5.frozen 6; have f7 := KB5.frozen 7
    clear KB5
    go_wp2_with fail
    go_cut [12] from 150 to 176 (fun s12 wx => s12 = .int .i64 0 ∧ ∃ d0 e0 d1 e1 d2 e2, Hid (Blk wx b 115 #[.slice (some ⟨gd, 0, none⟩) 1 1, .slice (some ⟨g4, 0, none⟩) 1 cp4, .slice (some ⟨d0, 0, none⟩) 1 e0, .slice (some ⟨d1, 0, none⟩) 1 e1, .slice (some ⟨d2, 0, none⟩) 1 e2, .int .i64 0, .int .i64 0, .int .i64 0] ∧ wx.ownsRow wc.heap.size 4 1 (.slice (some ⟨d0, 0, none⟩) 1 e0) 1 [.bool true] ∧ wx.ownsRow wc.heap.size 3 1 (.slice (some ⟨d1, 0, none⟩) 1 e1) 1 [.int .i64 0] ∧ wx.ownsRow wc.heap.size 4 1 (.slice (some ⟨d2, 0, none⟩) 1 e2) 1 [.bool false] ∧ Chg [b] wc wx))
    case first =>
      refine wp_region_any (by kernel_rfl) ?_
      change wpAny _ _ _ _ _ _ _ (World.drew _)
      refine wpAny_take (i := 0) (v := .pointer (some ⟨b, 0, none⟩)) rfl (by kernel_rfl) (by kernel_rfl) (by kernel_rfl) (fun _ _ _ h => h) (Or.inl ⟨by rfl, by intro w; go_simp⟩) ?_
      refine wpAny_take (i := 1) (v := .pointer (some ⟨b, 0, none⟩)) rfl (by kernel_rfl) (by kernel_rfl) (by kernel_rfl) (fun _ _ _ h => h) (Or.inl ⟨by rfl, by intro w; go_simp⟩) ?_
      refine wpAny_take (i := 2) (v := .pointer (some ⟨b, 0, none⟩)) rfl (by kernel_rfl) (by kernel_rfl) (by kernel_rfl) (fun _ _ _ h => h) (Or.inl ⟨by rfl, by intro w; go_simp⟩) ?_
      refine wpAny_take (i := 3) (v := .pointer (some ⟨b, 0, none⟩)) rfl (by kernel_rfl) (by kernel_rfl) (by kernel_rfl) (fun _ _ _ h => h) (Or.inl ⟨by rfl, by intro w; go_simp⟩) ?_
      refine wpAny_take (i := 4) (v := .pointer (some ⟨b, 0, none⟩)) rfl (by kernel_rfl) (by kernel_rfl) (by kernel_rfl) (fun _ _ _ h => h) (Or.inl ⟨by rfl, by intro w; go_simp⟩) ?_
      refine wpAny_take (i := 5) (v := .pointer (some ⟨b, 2, none⟩)) rfl (by kernel_rfl) (by kernel_rfl) (by kernel_rfl) (fun _ _ _ h => h) (Or.inl ⟨by rfl, by intro w; go_simp⟩) ?_
      refine wpAny_take (i := 9) (v := .pointer (some ⟨b, 0, none⟩)) rfl (by kernel_rfl) (by kernel_rfl) (by kernel_rfl) (fun _ _ _ h => h) (Or.inl ⟨by rfl, by intro w; go_simp⟩) ?_
      refine wpAny_take (i := 10) (v := .pointer (some ⟨b, 0, none⟩)) rfl (by kernel_rfl) (by kernel_rfl) (by kernel_rfl) (fun _ _ _ h => h) (Or.inl ⟨by rfl, by intro w; go_simp⟩) ?_
      refine wpAny_take (i := 11) (v := .pointer (some ⟨b, 3, none⟩)) rfl (by kernel_rfl) (by kernel_rfl) (by kernel_rfl) (fun _ _ _ h => h) (Or.inl ⟨by rfl, by intro w; go_simp⟩) ?_
      refine wpAny_take (i := 15) (v := .pointer (some ⟨b, 0, none⟩)) rfl (by kernel_rfl) (by kernel_rfl) (by kernel_rfl) (fun _ _ _ h => h) (Or.inl ⟨by rfl, by intro w; go_simp⟩) ?_
      refine wpAny_take (i := 16) (v := .pointer (some ⟨b, 0, none⟩)) rfl (by kernel_rfl) (by kernel_rfl) (by kernel_rfl) (fun _ _ _ h => h) (Or.inl ⟨by rfl, by intro w; go_simp⟩) ?_
      refine wpAny_take (i := 17) (v := .pointer (some ⟨b, 4, none⟩)) rfl (by kernel_rfl) (by kernel_rfl) (by kernel_rfl) (fun _ _ _ h => h) (Or.inl ⟨by rfl, by intro w; go_simp⟩) ?_
      obtain ⟨ib, hb1, hb2, hb3, hb4⟩ := info_parts info_boolU
      obtain ⟨ii, hi1, hi2, hi3, hi4⟩ := info_parts info_intU
      refine name_it (C := fun a => wpAny _ _ _ _ 18 _ a _) fun a1 hA => ?_
      have e155 : a1.tmps[155]? = some (.pointer (some ⟨b, 2, none⟩)) := by rw [← hA]; kernel_rfl
      have e161 : a1.tmps[161]? = some (.pointer (some ⟨b, 3, none⟩)) := by rw [← hA]; kernel_rfl
      have e167 : a1.tmps[167]? = some (.pointer (some ⟨b, 4, none⟩)) := by rw [← hA]; kernel_rfl
      have esz : a1.tmps.size = 260 := by rw [← hA]; kernel_rfl
      have HA := hide hA
      clear hA
      refine three_tail (W := wc) (E := fun r => if r = 1 then 3 else 4) (c := fun r => if r = 0 then .bool true else if r = 1 then .int .i64 0 else .bool false) ?_ (by omega) (Below.refl _ _).drew (by kernel_rfl) (by kernel_rfl) ?_
      · refine ⟨rfl, ?_, ?_, ?_, ?_⟩
        · intro r hr
          match r, hr with
          | 0, _ => exact ⟨_, rfl, rfl, rfl, by decide, fun a w he hb => load_run (t := 155) (.inl rfl) rfl (p := ⟨b, 2, none⟩) (he.trans e155) ((hb.cell (p := ⟨b, 2, none⟩) lb5).trans k2)⟩
          | 1, _ => exact ⟨_, rfl, rfl, rfl, by decide, fun a w he hb => load_run (t := 161) (.inr rfl) rfl (p := ⟨b, 3, none⟩) (he.trans e161) ((hb.cell (p := ⟨b, 3, none⟩) lb5).trans k3)⟩
          | 2, _ => exact ⟨_, rfl, rfl, rfl, by decide, fun a w he hb => load_run (t := 167) (.inl rfl) rfl (p := ⟨b, 4, none⟩) (he.trans e167) ((hb.cell (p := ⟨b, 4, none⟩) lb5).trans k4)⟩
        · intro r hr
          match r, hr with
          | 0, _ => exact ⟨_, rfl, rfl, rfl, by decide, fun a w => make_run_t rfl a w⟩
          | 1, _ => exact ⟨_, rfl, rfl, rfl, by decide, fun a w => make_run_i rfl a w⟩
          | 2, _ => exact ⟨_, rfl, rfl, rfl, by decide, fun a w => make_run_f rfl a w⟩
        · intro r hr
          match r, hr with
          | 0, _ => exact ⟨_, rfl, rfl, rfl, by decide, ⟨{ on := 6, ground := .data }, by simp, rfl, rfl⟩, ⟨{ on := 7, ground := .data }, by simp, rfl, rfl⟩, (fun hp => absurd hp (by decide)), fun a w g h1 h2 h3 h4 => app_run Tryz.underlying112 hb1 hb2 hb3 hb4 (by decide) rfl rfl rfl h1 h2 h3 h4⟩
          | 1, _ => exact ⟨_, rfl, rfl, rfl, by decide, ⟨{ on := 12, ground := .data }, by simp, rfl, rfl⟩, ⟨{ on := 13, ground := .data }, by simp, rfl, rfl⟩, (fun _ => ⟨{ on := 8, ground := .chain }, by simp, rfl, rfl⟩), fun a w g h1 h2 h3 h4 => app_run Tryz.underlying113 hi1 hi2 hi3 hi4 (by decide) rfl rfl rfl h1 h2 h3 h4⟩
          | 2, _ => exact ⟨_, rfl, rfl, rfl, by decide, ⟨{ on := 18, ground := .data }, by simp, rfl, rfl⟩, ⟨{ on := 19, ground := .data }, by simp, rfl, rfl⟩, (fun _ => ⟨{ on := 14, ground := .chain }, by simp, rfl, rfl⟩), fun a w g h1 h2 h3 h4 => app_run Tryz.underlying112 hb1 hb2 hb3 hb4 (by decide) rfl rfl rfl h1 h2 h3 h4⟩
        · intro i o hi ho
          have h30 : i < 30 := (Array.getElem?_eq_some_iff.1 ho).1
          rcases (show i = 21 ∨ i = 22 ∨ i = 23 ∨ i = 24 ∨ i = 25 ∨ i = 26 ∨ i = 27 ∨ i = 28 ∨ i = 29 by omega) with rfl | rfl | rfl | rfl | rfl | rfl | rfl | rfl | rfl
          · injection ho with ho; subst ho; exact ⟨{ on := 20, ground := .phase }, by simp, rfl, rfl⟩
          · injection ho with ho; subst ho; exact ⟨{ on := 20, ground := .phase }, by simp, rfl, rfl⟩
          · injection ho with ho; subst ho; exact ⟨{ on := 20, ground := .phase }, by simp, rfl, rfl⟩
          · injection ho with ho; subst ho; exact ⟨{ on := 20, ground := .phase }, by simp, rfl, rfl⟩
          · injection ho with ho; subst ho; exact ⟨{ on := 20, ground := .phase }, by simp, rfl, rfl⟩
          · injection ho with ho; subst ho; exact ⟨{ on := 20, ground := .phase }, by simp, rfl, rfl⟩
          · injection ho with ho; subst ho; exact ⟨{ on := 20, ground := .phase }, by simp, rfl, rfl⟩
          · injection ho with ho; subst ho; exact ⟨{ on := 20, ground := .phase }, by simp, rfl, rfl⟩
          · injection ho with ho; subst ho; exact ⟨{ on := 20, ground := .phase }, by simp, rfl, rfl⟩
      · intro x0 v0 x1 v1 x2 v2 w6 hW6 o0 o1 o2
        simp only [if_pos, if_neg, Nat.reduceEqDiff, if_true, if_false, Nat.zero_ne_one, Nat.one_ne_zero] at o0 o1 o2
        obtain ⟨d0, e0, rfl, _, _⟩ := o0.form (by decide)
        obtain ⟨d1, e1, rfl, _, _⟩ := o1.form (by decide)
        obtain ⟨d2, e2, rfl, _, _⟩ := o2.form (by decide)
        have HO := hide (And.intro o0 (And.intro o1 o2))
        have KB6 := HC.out.1.below hW6 lb5
        have HC6 := hide (Chg.of_below (S := [b]) hW6)
        clear k0 k1 k2 k3 k4 k5 k6 k7 f0 f1 f2 f3 f4 f5 f6 f7 o0 o1 o2 hW6
        have k0 := KB6.cell 0; have k1 := KB6.cell 1; have k2 := KB6.cell 2; have k3 := KB6.cell 3; have k4 := KB6.cell 4; have k5 := KB6.cell 5; have k6 := KB6.cell 6; have k7 := KB6.cell 7; simp at k0 k1 k2 k3 k4 k5 k6 k7
        have f0 := KB6.frozen 0; have f1 := KB6.frozen 1; have f2 := KB6.frozen 2; have f3 := KB6.frozen 3; have f4 := KB6.frozen 4; have f5 := KB6.frozen 5; have f6 := KB6.frozen 6; have f7 := KB6.frozen 7
        have lb6 := KB6.lt
        have HK6 := hide KB6
        clear KB6
        clear e155 e161 e167 esz
        rw [← HA.out]
        unfold putsA
        refine wpList_fake 170 _ ?_
        refine wpList_fake 169 _ ?_
        refine wpList_fake 168 _ ?_
        refine wpList_fake 164 _ ?_
        refine wpList_fake 163 _ ?_
        refine wpList_fake 162 _ ?_
        refine wpList_fake 158 _ ?_
        refine wpList_fake 157 _ ?_
        refine wpList_fake 156 _ ?_
        refine wpList_fake 167 _ ?_
        refine wpList_fake 166 _ ?_
        refine wpList_fake 165 _ ?_
        refine wpList_fake 161 _ ?_
        refine wpList_fake 160 _ ?_
        refine wpList_fake 159 _ ?_
        refine wpList_fake 155 _ ?_
        refine wpList_fake 154 _ ?_
        refine wpList_fake 153 _ ?_
        refine wpList_fake 152 _ ?_
        refine wpList_fake 151 _ ?_
        refine wpList_fake 150 _ ?_
        simp only [List.drop]
        go_wp2_with fail
        go_meet
        refine ⟨rfl, d0, e0, d1, e1, d2, e2, ?_⟩
        refine name_it (C := fun W => Hid (Blk W b _ _ ∧ W.ownsRow _ _ _ _ _ _ ∧ W.ownsRow _ _ _ _ _ _ ∧ W.ownsRow _ _ _ _ _ _ ∧ Chg [b] _ W)) fun W7 hW7 => ?_
        have C7 : Chg [b] w6 W7 := by subst hW7; (repeat' (first | with_reducible exact Chg.refl _ _ | with_reducible refine Chg.alloc ?_ _ | with_reducible refine Chg.drew ?_ | with_reducible refine Chg.drewN ?_ _ | with_reducible refine Chg.set_ ?_ _ _ (by first | (simp; done) | (simp; omega) | omega)))
        have hno : ∀ v k n (xs : List Value) (e : TypeId), w6.ownsRow wc.heap.size e 1 v n xs → v.ownBlock = some k → k ∉ [b] := fun v k n xs e ho hk hm => by have := (ho.lt k hk).1; simp at hm; omega
        refine ⟨by subst hW7; (repeat' (first | with_reducible exact HK6.out | with_reducible exact Blk.new_ (by first | rfl | (simp; done) | (simp; omega)) | with_reducible refine Blk.alloc_ ?_ | with_reducible refine Blk.drew ?_ | with_reducible refine Blk.drewN ?_ _ | with_reducible refine Blk.far_ ?_ (by first | (simp; done) | (simp; omega) | omega) | with_reducible apply Blk.set_eq | rfl)), own_chg HO.out.1 C7 (fun k hk => hno _ k _ _ _ HO.out.1 hk), own_chg HO.out.2.1 C7 (fun k hk => hno _ k _ _ _ HO.out.2.1 hk), own_chg HO.out.2.2 C7 (fun k hk => hno _ k _ _ _ HO.out.2.2 hk), HC6.out.trans C7 (fun x hx => .inl hx)⟩
    case rest =>
      obtain ⟨rfl, d0, e0, d1, e1, d2, e2, hcut⟩ := hcut
      have HC2 := hide hcut
      clear hcut
      clear k0 k1 k2 k3 k4 k5 k6 k7 f0 f1 f2 f3 f4 f5 f6 f7
      have hCA := HK.out.1.mono (S' := [b]) (by intro x hx; cases hx)
      have hCB := (hCA.trans HC.out.2.2 (fun x hx => .inl hx)).trans HC2.out.2.2.2.2 (fun x hx => .inl hx)
      have KFc := (HK.out.2.1.chg HC.out.2.2 (by simp; omega)).chg HC2.out.2.2.2.2 (by simp; omega)
      have KRc := (HK.out.2.2.1.chg HC.out.2.2 (by simp; omega)).chg HC2.out.2.2.2.2 (by simp; omega)
      have HUc := hide (own_chg HC.out.2.1 HC2.out.2.2.2.2 (by intro k hk hm; have := (HC.out.2.1.lt k hk).1; simp at hm; omega))
      have KBc := HC2.out.1
      have HR := hide (And.intro HC2.out.2.1 (And.intro HC2.out.2.2.1 HC2.out.2.2.2.1))
      have hwA := HC.out.2.2.size
      have hwc : W.heap.size ≤ wc.heap.size := Nat.le_trans HC.out.2.2.size HC2.out.2.2.2.2.size
      clear HC HC2 HK
      have k0 := KBc.cell 0; have k1 := KBc.cell 1; have k2 := KBc.cell 2; have k3 := KBc.cell 3; have k4 := KBc.cell 4; have k5 := KBc.cell 5; have k6 := KBc.cell 6; have k7 := KBc.cell 7; simp at k0 k1 k2 k3 k4 k5 k6 k7
      have f0 := KBc.frozen 0; have f1 := KBc.frozen 1; have f2 := KBc.frozen 2; have f3 := KBc.frozen 3; have f4 := KBc.frozen 4; have f5 := KBc.frozen 5; have f6 := KBc.frozen 6; have f7 := KBc.frozen 7
      have lbc := KBc.lt
      go_wp2_with fail
      refine name_code fun V hV => ?_
      have hCV : Chg [b] w V := by subst hV; (repeat' (first | with_reducible exact hCB | with_reducible exact Chg.refl _ _ | with_reducible refine Chg.alloc ?_ _ | with_reducible refine Chg.drew ?_ | with_reducible refine Chg.drewN ?_ _ | with_reducible refine Chg.set_ ?_ _ _ (by first | (simp; done) | (simp; omega) | omega)))
      have hVc : Chg [b] wc V := by subst hV; (repeat' (first | with_reducible exact Chg.refl _ _ | with_reducible refine Chg.alloc ?_ _ | with_reducible refine Chg.drew ?_ | with_reducible refine Chg.drewN ?_ _ | with_reducible refine Chg.set_ ?_ _ _ (by first | (simp; done) | (simp; omega) | omega)))
      have KB : Blk V b 115 #[.slice (some ⟨gd, 0, none⟩) 1 1, .slice (some ⟨g4, 0, none⟩) 1 cp4, .slice (some ⟨d0, 0, none⟩) 1 e0, .slice (some ⟨d1, 0, none⟩) 1 e1, .slice (some ⟨d2, 0, none⟩) 1 e2, .int .i64 1, .int .i64 0, .int .i64 0] := by subst hV; (repeat' (first | with_reducible exact KBc | with_reducible exact Blk.new_ (by first | rfl | (simp; done) | (simp; omega)) | with_reducible refine Blk.alloc_ ?_ | with_reducible refine Blk.drew ?_ | with_reducible refine Blk.drewN ?_ _ | with_reducible refine Blk.far_ ?_ (by first | (simp; done) | (simp; omega) | omega) | with_reducible apply Blk.set_eq | rfl))
      clear hV k0 k1 k2 k3 k4 k5 k6 k7 f0 f1 f2 f3 f4 f5 f6 f7
      have KF := KFc.chg hVc (by simp; omega)
      have KR := KRc.chg hVc (by simp; omega)
      have hDV := HD.out V hCV
      clear KFc KRc KBc lbc
      have cF := hide (fun (W' : World) (h : Below V.heap.size V W') => find22_ex W' N gd g c vp (hDV.chg (Chg.of_below (S := []) h) (by simp)))
      have cN := hide (fun (W' : World) (h : Below V.heap.size V W') => nodes25_ex W' (.pointer (some ⟨b, 0, none⟩)) g c N vp (hDV.n.chg (Chg.of_below (S := []) h) (by simp)) (hDV.p.chg (Chg.of_below (S := []) h) (by simp)))
      have HS : Hid (∀ w', Below V.heap.size V w' → (w'.cell? ⟨b, 0, none⟩ = some (.slice (some ⟨gd, 0, none⟩) 1 1) ∧ w'.cell? ⟨gd, 1, none⟩ = some (.slice (some ⟨g, 0, none⟩) 3 c) ∧ w'.cell? ⟨w.heap.size, 0, none⟩ = some (.int .i64 0) ∧ w'.cell? ⟨w.heap.size, 1, none⟩ = some (.string ⟨#[]⟩) ∧ w'.cell? ⟨w.heap.size, 2, none⟩ = some (.string ⟨#[]⟩) ∧ w'.cell? ⟨w.heap.size, 3, none⟩ = some (.int .u8 0) ∧ w'.cell? ⟨w.heap.size, 4, none⟩ = some (.string ⟨#[]⟩) ∧ w'.cell? ⟨w.heap.size, 5, none⟩ = some (.string ⟨#[]⟩) ∧ w'.cell? ⟨w.heap.size, 6, none⟩ = some (.int .i64 0) ∧ w'.cell? ⟨w.heap.size, 7, none⟩ = some (.string ⟨#[]⟩))) := fun w' h => by
        have K' := KB.below h KB.lt
        have F' := KF.below h KF.lt
        have q0 := K'.cell 0
        have s0 := F'.cell 0; have s1 := F'.cell 1; have s2 := F'.cell 2; have s3 := F'.cell 3; have s4 := F'.cell 4; have s5 := F'.cell 5; have s6 := F'.cell 6; have s7 := F'.cell 7; simp at s0 s1 s2 s3 s4 s5 s6 s7
        simp at q0
        exact ⟨q0, (hDV.d.chg (Chg.of_below (S := []) h) (by simp)).cell 1 _ rfl, s0, s1, s2, s3, s4, s5, s6, s7⟩
      have HV := hide (And.intro KB (And.intro KF (And.intro KR (And.intro hDV (And.intro hCV hVc)))))
      clear KB KF KR hDV hCV hVc hCA hCB
      obtain ⟨q0, q1, q2, q3, q4, q5, q6, q7, q8, q9⟩ := HS.out V (Below.refl _ _)
      have lgd : gd < V.heap.size := HV.out.2.2.2.1.d.lt
      go_cut [13, 14, 15] from 184 to 203 (fun s13 s14 s15 wx => s15 = .bool true ∧ ∃ A3 c3 P, s13 = .slice A3 3 c3 ∧ s14 = .pointer (some ⟨P, 0, none⟩) ∧ Hid (Blk wx P 57 st0c ∧ wx.ownsRow V.heap.size 61 9 (.slice A3 3 c3) 3 (exNodesE vp) ∧ Chg [] V wx ∧ V.heap.size ≤ P))
      case first =>
        go_region_held3 (fun w' => w'.cell? ⟨b, 0, none⟩ = some (.slice (some ⟨gd, 0, none⟩) 1 1) ∧ w'.cell? ⟨gd, 1, none⟩ = some (.slice (some ⟨g, 0, none⟩) 3 c) ∧ w'.cell? ⟨w.heap.size, 0, none⟩ = some (.int .i64 0) ∧ w'.cell? ⟨w.heap.size, 1, none⟩ = some (.string ⟨#[]⟩) ∧ w'.cell? ⟨w.heap.size, 2, none⟩ = some (.string ⟨#[]⟩) ∧ w'.cell? ⟨w.heap.size, 3, none⟩ = some (.int .u8 0) ∧ w'.cell? ⟨w.heap.size, 4, none⟩ = some (.string ⟨#[]⟩) ∧ w'.cell? ⟨w.heap.size, 5, none⟩ = some (.string ⟨#[]⟩) ∧ w'.cell? ⟨w.heap.size, 6, none⟩ = some (.int .i64 0) ∧ w'.cell? ⟨w.heap.size, 7, none⟩ = some (.string ⟨#[]⟩)) ((refine HS.out _ ?_; (repeat' (first | with_reducible exact HN.out.2 | with_reducible exact Below.refl _ _ | with_reducible refine Below.drew ?_ | with_reducible refine Below.alloc ?_ ?_ _ | with_reducible refine Below.setCell ?_ ?_ _)); all_goals first | (simp; done) | (simp; omega) | omega))
          (first | (go_at_call 85; refine (cF.out _ (Chg.bel (by (repeat' (first | with_reducible exact Chg.refl _ _ | with_reducible refine Chg.alloc ?_ _ | with_reducible refine Chg.drew ?_ | with_reducible refine Chg.drewN ?_ _ | with_reducible refine Chg.set_ ?_ _ _ (by first | (simp; done) | (simp; omega) | omega)))))).mono ?_; rintro e wf ⟨rfl, rfl⟩) | (go_at_call 84; refine (cN.out _ (Chg.bel (by (repeat' (first | with_reducible exact Chg.refl _ _ | with_reducible refine Chg.alloc ?_ _ | with_reducible refine Chg.drew ?_ | with_reducible refine Chg.drewN ?_ _ | with_reducible refine Chg.set_ ?_ _ _ (by first | (simp; done) | (simp; omega) | omega)))))).mono ?_; rintro e wn ⟨vn, rfl, hown, hbn⟩; obtain ⟨A3, c3, rfl⟩ := own_sliceE hown; have HN := hide (And.intro hown (below_step (a := V) (Chg.bel (by (repeat' (first | with_reducible exact Chg.refl _ _ | with_reducible refine Chg.alloc ?_ _ | with_reducible refine Chg.drew ?_ | with_reducible refine Chg.drewN ?_ _ | with_reducible refine Chg.set_ ?_ _ _ (by first | (simp; done) | (simp; omega) | omega))))) hbn)); have hsz := HN.out.2.size; (first | ((with_reducible have hx : Below _ (V.alloc (.cells st0c 57)).drew wn := hbn); have KP := (Blk.new V 57 st0c).drew.below hx (by simp); have HKP := hide KP; have x0 := KP.cell 0; have x1 := KP.cell 1; have x2 := KP.cell 2; have x3 := KP.cell 3; have x4 := KP.cell 4; have x5 := KP.cell 5; have x6 := KP.cell 6; have x7 := KP.cell 7; simp at x0 x1 x2 x3 x4 x5 x6 x7; have y0 := KP.frozen 0; have y1 := KP.frozen 1; have y2 := KP.frozen 2; have y3 := KP.frozen 3; have y4 := KP.frozen 4; have y5 := KP.frozen 5; have y6 := KP.frozen 6; have y7 := KP.frozen 7; have lP := KP.lt; clear KP) | ((with_reducible have hx : Below _ (V.drew.alloc (.cells st0c 57)) wn := hbn); have KP := (Blk.new V.drew 57 st0c).below hx (by simp); have HKP := hide KP; have x0 := KP.cell 0; have x1 := KP.cell 1; have x2 := KP.cell 2; have x3 := KP.cell 3; have x4 := KP.cell 4; have x5 := KP.cell 5; have x6 := KP.cell 6; have x7 := KP.cell 7; simp at x0 x1 x2 x3 x4 x5 x6 x7; have y0 := KP.frozen 0; have y1 := KP.frozen 1; have y2 := KP.frozen 2; have y3 := KP.frozen 3; have y4 := KP.frozen 4; have y5 := KP.frozen 5; have y6 := KP.frozen 6; have y7 := KP.frozen 7; have lP := KP.lt; clear KP) | skip); clear hown hbn))
        all_goals
          go_wp2_with fail
          go_meet
          refine ⟨rfl, A3, c3, _, rfl, rfl, ?_⟩
          refine name_it (C := fun W => Hid (Blk W _ _ _ ∧ W.ownsRow _ _ _ _ _ _ ∧ Chg [] _ W ∧ _)) fun W7 hW7 => ?_
          have C7 : Chg [V.heap.size] wn W7 := by subst hW7; (repeat' (first | with_reducible exact Chg.refl _ _ | with_reducible refine Chg.alloc ?_ _ | with_reducible refine Chg.drew ?_ | with_reducible refine Chg.drewN ?_ _ | with_reducible refine Chg.set_ ?_ _ _ (by first | (simp; done) | (simp; omega) | omega)))
          refine ⟨?_, (own_chg HN.out.1 C7 (by intro k hk hm; have := (HN.out.1.lt k hk).1; simp at this hm; omega)).mono (by simp <;> omega), (Chg.of_below (S := []) HN.out.2).trans C7 (by intro x hx; simp at hx; subst hx; exact .inr (Nat.le_refl _)), by omega⟩
          subst hW7
          first | (have q := HKP.out; (repeat' (first | with_reducible exact q | with_reducible exact Blk.new_ (by first | rfl | (simp; done) | (simp; omega)) | with_reducible refine Blk.alloc_ ?_ | with_reducible refine Blk.drew ?_ | with_reducible refine Blk.drewN ?_ _ | with_reducible refine Blk.far_ ?_ (by first | (simp; done) | (simp; omega) | omega) | with_reducible apply Blk.set_eq | rfl)); done) | ((repeat' (first | with_reducible exact Blk.new_ (by first | rfl | (simp; done) | (simp; omega)) | with_reducible refine Blk.alloc_ ?_ | with_reducible refine Blk.drew ?_ | with_reducible refine Blk.drewN ?_ _ | with_reducible refine Blk.far_ ?_ (by first | (simp; done) | (simp; omega) | omega) | with_reducible apply Blk.set_eq | rfl)); done)
      case rest =>
        obtain ⟨rfl, A3, c3, P, rfl, rfl, hcut⟩ := hcut
        have HX := hide hcut
        clear hcut q0 q1 q2 q3 q4 q5 q6 q7 q8 q9 HS cF cN
        have hVc := HV.out.2.2.2.2.2
        have hVx := HX.out.2.2.1
        have hxc := hVc.trans hVx (by intro x hx; cases hx)
        have HCx := hide (HV.out.2.2.2.2.1.trans hVx (by intro x hx; cases hx))
        have oU := own_chg HUc.out hxc (by intro k hk hm; have := (HUc.out.lt k hk).1; simp at hm; omega)
        have o0 := own_chg HR.out.1 hxc (by intro k hk hm; have := (HR.out.1.lt k hk).1; simp at hm; omega)
        have o2 := own_chg HR.out.2.2 hxc (by intro k hk hm; have := (HR.out.2.2.lt k hk).1; simp at hm; omega)
        have KBx := HV.out.1.chg hVx (by simp)
        have KRx := HV.out.2.2.1.chg hVx (by simp)
        have KPx := HX.out.1
        have hPV := HX.out.2.2.2
        obtain ⟨gn, cn, hA3, _, hgn, hAn⟩ := AtB.of_own HX.out.2.1 (by decide)
        injection hA3 with e1 _ e2
        subst e1; subst e2
        obtain ⟨_, hg4, aU⟩ := AtB.of_ownG oU (by decide)
        obtain ⟨_, hd0, a0⟩ := AtB.of_ownG o0 (by decide)
        obtain ⟨_, hd2, a2⟩ := AtB.of_ownG o2 (by decide)
        have m0 := a0.cell 0 _ rfl; have m2 := a2.cell 0 _ rfl; have mU := aU.cell 0 _ rfl
        have n02 : d0 ≠ d2 := by intro e; subst e; rw [m0] at m2; cases m2
        have n20 : d2 ≠ d0 := fun e => n02 e.symm
        have n04 : d0 ≠ g4 := by intro e; subst e; rw [m0] at mU; cases mU
        have n40 : g4 ≠ d0 := fun e => n04 e.symm
        have hU4 : g4 < V.heap.size := by have := (HUc.out.lt g4 rfl).2; have := hVc.size; omega
        have hU0 : d0 < V.heap.size := by have := (HR.out.1.lt d0 rfl).2; have := hVc.size; omega
        have hN0 : gn ≠ d0 := by omega
        have hN4 : gn ≠ g4 := by omega
        have y0 := o0.frozenAt 0
        have HoU := hide oU
        have l0 := a0.lt; have l2 := a2.lt
        have HaU := hide aU
        have HAn := hide hAn
        have HKx := hide (And.intro KBx (And.intro KRx KPx))
        have k0 := KBx.cell 0; have k1 := KBx.cell 1; have k2 := KBx.cell 2; have k3 := KBx.cell 3; have k4 := KBx.cell 4; have k5 := KBx.cell 5; have k6 := KBx.cell 6; have k7 := KBx.cell 7; simp at k0 k1 k2 k3 k4 k5 k6 k7
        have f0 := KBx.frozen 0; have f1 := KBx.frozen 1; have f2 := KBx.frozen 2; have f3 := KBx.frozen 3; have f4 := KBx.frozen 4; have f5 := KBx.frozen 5; have f6 := KBx.frozen 6; have f7 := KBx.frozen 7
        have lb6 := KBx.lt
        clear KBx KRx KPx aU hAn a0 a2 oU o0 o2 hVc hVx hxc mU HV HX HUc HR
        go_wp2_with fail
        refine name_code fun Y hY => ?_
        have CY : Chg [b, d0] wc Y := by subst hY; (repeat' (first | with_reducible exact Chg.refl _ _ | with_reducible refine Chg.alloc ?_ _ | with_reducible refine Chg.drew ?_ | with_reducible refine Chg.drewN ?_ _ | with_reducible refine Chg.set_ ?_ _ _ (by first | (simp; done) | (simp; omega) | omega)))
        have KBY : Blk Y b 115 #[.slice (some ⟨gd, 0, none⟩) 1 1, .slice (some ⟨g4, 0, none⟩) 1 cp4, .slice (some ⟨d0, 0, none⟩) 1 e0, .slice (some ⟨d1, 0, none⟩) 1 e1, .slice (some ⟨d2, 0, none⟩) 1 e2, .int .i64 0, .int .i64 0, .int .i64 0] := by subst hY; (repeat' (first | with_reducible exact HKx.out.1 | with_reducible exact Blk.new_ (by first | rfl | (simp; done) | (simp; omega)) | with_reducible refine Blk.alloc_ ?_ | with_reducible refine Blk.drew ?_ | with_reducible refine Blk.drewN ?_ _ | with_reducible refine Blk.far_ ?_ (by first | (simp; done) | (simp; omega) | omega) | with_reducible apply Blk.set_eq | rfl))
        have KRY := HKx.out.2.1.chg CY (by simp; omega)
        have KPY := HKx.out.2.2.chg CY (by simp; omega)
        have aUY := HaU.out.chg CY (by simp; omega)
        have oUY := own_chg HoU.out CY (by intro k hk hm; have hk : some g4 = some k := hk; injection hk with hk; simp at hm; omega)
        have HAY := hide (HAn.out.chg CY (by simp; omega))
        clear hY k0 k1 k2 k3 k4 k5 k6 k7 f0 f1 f2 f3 f4 f5 f6 f7 m0 m2 y0 HaU HoU HAn HKx
        have HCY := hide (HCx.out.trans CY (by intro x hx; simp at hx ⊢; omega))
        have k0 := KBY.cell 0; have k1 := KBY.cell 1; have k2 := KBY.cell 2; have k3 := KBY.cell 3; have k4 := KBY.cell 4; have k5 := KBY.cell 5; have k6 := KBY.cell 6; have k7 := KBY.cell 7; simp at k0 k1 k2 k3 k4 k5 k6 k7
        have p0 := KPY.cell 0; have p1 := KPY.cell 1; have p2 := KPY.cell 2; have p3 := KPY.cell 3; have p4 := KPY.cell 4; have p5 := KPY.cell 5; have p6 := KPY.cell 6; have p7 := KPY.cell 7; simp at p0 p1 p2 p3 p4 p5 p6 p7
        have m9 := aUY.cell 9 _ rfl; have m10 := aUY.cell 10 _ rfl; have m11 := aUY.cell 11 _ rfl; have m12 := aUY.cell 12 _ rfl; have m13 := aUY.cell 13 _ rfl; have m14 := aUY.cell 14 _ rfl; have m15 := aUY.cell 15 _ rfl; have m16 := aUY.cell 16 _ rfl; have m17 := aUY.cell 17 _ rfl
        have y9 := oUY.frozenAt 9; have y10 := oUY.frozenAt 10; have y11 := oUY.frozenAt 11; have y12 := oUY.frozenAt 12; have y13 := oUY.frozenAt 13; have y14 := oUY.frozenAt 14; have y15 := oUY.frozenAt 15; have y16 := oUY.frozenAt 16; have y17 := oUY.frozenAt 17
        have lY := KBY.lt; have lP := KPY.lt; have l4 := aUY.lt; have lR := KRY.lt
        have HKY := hide (And.intro KBY (And.intro KRY (And.intro KPY aUY)))
        clear KBY KRY KPY aUY oUY CY HCx
        have HS : Hid (∀ w', Chg [g4] Y w' → (w'.cell? ⟨b, 1, none⟩ = some (.slice (some ⟨g4, 0, none⟩) 1 cp4) ∧ w'.cell? ⟨P, 0, none⟩ = some (.int .i64 0) ∧ w'.cell? ⟨P, 1, none⟩ = some (.string ⟨#[]⟩) ∧ w'.cell? ⟨P, 2, none⟩ = some (.string ⟨#[]⟩) ∧ w'.cell? ⟨P, 3, none⟩ = some (.int .u8 0) ∧ w'.cell? ⟨P, 4, none⟩ = some (.string ⟨#[]⟩) ∧ w'.cell? ⟨P, 5, none⟩ = some (.string ⟨#[]⟩) ∧ w'.cell? ⟨P, 6, none⟩ = some (.int .i64 0) ∧ w'.cell? ⟨P, 7, none⟩ = some (.string ⟨#[]⟩))) := fun w' h => by
          have K' := HKY.out.1.chg h (by simp; omega)
          have P' := HKY.out.2.2.1.chg h (by simp; omega)
          have q1 := K'.cell 1
          have s0 := P'.cell 0; have s1 := P'.cell 1; have s2 := P'.cell 2; have s3 := P'.cell 3; have s4 := P'.cell 4; have s5 := P'.cell 5; have s6 := P'.cell 6; have s7 := P'.cell 7; simp at s0 s1 s2 s3 s4 s5 s6 s7
          simp at q1
          exact ⟨q1, s0, s1, s2, s3, s4, s5, s6, s7⟩
        go_region_held3 (fun w' => w'.cell? ⟨b, 1, none⟩ = some (.slice (some ⟨g4, 0, none⟩) 1 cp4) ∧ w'.cell? ⟨P, 0, none⟩ = some (.int .i64 0) ∧ w'.cell? ⟨P, 1, none⟩ = some (.string ⟨#[]⟩) ∧ w'.cell? ⟨P, 2, none⟩ = some (.string ⟨#[]⟩) ∧ w'.cell? ⟨P, 3, none⟩ = some (.int .u8 0) ∧ w'.cell? ⟨P, 4, none⟩ = some (.string ⟨#[]⟩) ∧ w'.cell? ⟨P, 5, none⟩ = some (.string ⟨#[]⟩) ∧ w'.cell? ⟨P, 6, none⟩ = some (.int .i64 0) ∧ w'.cell? ⟨P, 7, none⟩ = some (.string ⟨#[]⟩)) ((refine HS.out _ ?_; (repeat' (first | with_reducible exact Chg.refl _ _ | with_reducible refine Chg.alloc ?_ _ | with_reducible refine Chg.drew ?_ | with_reducible refine Chg.drewN ?_ _ | with_reducible refine Chg.set_ ?_ _ _ (by first | (simp; done) | (simp; omega) | omega))))) (first | fail)
        all_goals
          go_wp2_with fail
          refine name_code fun Z hZ => ?_
          have CZ : Chg [g4] Y Z := by subst hZ; (repeat' (first | with_reducible exact Chg.refl _ _ | with_reducible refine Chg.alloc ?_ _ | with_reducible refine Chg.drew ?_ | with_reducible refine Chg.drewN ?_ _ | with_reducible refine Chg.set_ ?_ _ _ (by first | (simp; done) | (simp; omega) | omega)))
          have aUZ : AtB Z g4 (unitE gn c3) := by
            have q := (((((((((HKY.out.2.2.2.set_ 17 (.slice (some ⟨gn, 0, none⟩) 3 c3) (by simp)).set_ 9 (.int .i64 0) (by simp)).set_ 10 (.string ⟨#[]⟩) (by simp)).set_ 11 (.string ⟨#[]⟩) (by simp)).set_ 12 (.int .u8 0) (by simp)).set_ 13 (.string ⟨#[]⟩) (by simp)).set_ 14 (.string ⟨#[]⟩) (by simp)).set_ 15 (.int .i64 0) (by simp)).set_ 16 (.string ⟨#[]⟩) (by simp)).drew
            subst hZ
            exact q
          have KBZ := HKY.out.1.chg CZ (by simp; omega)
          have KRZ := HKY.out.2.1.chg CZ (by simp; omega)
          have KPZ := HKY.out.2.2.1.chg CZ (by simp; omega)
          have HZ := hide (And.intro (HCY.out.trans CZ (by intro x hx; simp at hx; omega)) (And.intro KBZ (And.intro aUZ (And.intro (HAY.out.chg CZ (by simp; omega)) KRZ))))
          clear hZ CZ aUZ k0 k1 k2 k3 k4 k5 k6 k7 p0 p1 p2 p3 p4 p5 p6 p7 m9 m10 m11 m12 m13 m14 m15 m16 m17 y9 y10 y11 y12 y13 y14 y15 y16 y17 HS
          have p0 := KPZ.cell 0; have p1 := KPZ.cell 1; have p2 := KPZ.cell 2; have p3 := KPZ.cell 3; have p4 := KPZ.cell 4; have p5 := KPZ.cell 5; have p6 := KPZ.cell 6; have p7 := KPZ.cell 7; simp at p0 p1 p2 p3 p4 p5 p6 p7
          have r0 := KRZ.cell 0; have r1 := KRZ.cell 1; have r2 := KRZ.cell 2; have r3 := KRZ.cell 3; have r4 := KRZ.cell 4; have r5 := KRZ.cell 5; have r6 := KRZ.cell 6; have r7 := KRZ.cell 7; simp at r0 r1 r2 r3 r4 r5 r6 r7
          have z0 := KRZ.frozen 0; have z1 := KRZ.frozen 1; have z2 := KRZ.frozen 2; have z3 := KRZ.frozen 3; have z4 := KRZ.frozen 4; have z5 := KRZ.frozen 5; have z6 := KRZ.frozen 6; have z7 := KRZ.frozen 7
          have lPZ := KPZ.lt; have lRZ := KRZ.lt
          clear KBZ KRZ KPZ
          go_region
          all_goals
            go_wp2_with fail
            refine name_post fun F hF => ?_
            have CF : Chg [w.heap.size + 1] Z F := by subst hF; (repeat' (first | with_reducible exact Chg.refl _ _ | with_reducible refine Chg.alloc ?_ _ | with_reducible refine Chg.drew ?_ | with_reducible refine Chg.drewN ?_ _ | with_reducible refine Chg.set_ ?_ _ _ (by first | (simp; done) | (simp; omega) | omega)))
            have KRF : Blk F (w.heap.size + 1) 57 st0c := by subst hF; (repeat' (first | with_reducible exact HZ.out.2.2.2.2 | with_reducible exact Blk.new_ (by first | rfl | (simp; done) | (simp; omega)) | with_reducible refine Blk.alloc_ ?_ | with_reducible refine Blk.drew ?_ | with_reducible refine Blk.drewN ?_ _ | with_reducible refine Blk.far_ ?_ (by first | (simp; done) | (simp; omega) | omega) | with_reducible apply Blk.set_eq | rfl))
            have HCF := hide (HZ.out.1.trans CF (by intro x hx; simp at hx; omega))
            have HF := hide (And.intro (HZ.out.2.1.chg CF (by simp; omega)) (And.intro (HZ.out.2.2.1.chg CF (by simp; omega)) (HZ.out.2.2.2.1.chg CF (by simp; omega))))
            clear hF CF p0 p1 p2 p3 p4 p5 p6 p7 r0 r1 r2 r3 r4 r5 r6 r7 z0 z1 z2 z3 z4 z5 z6 z7
            have r0 := KRF.cell 0; have r1 := KRF.cell 1; have r2 := KRF.cell 2; have r3 := KRF.cell 3; have r4 := KRF.cell 4; have r5 := KRF.cell 5; have r6 := KRF.cell 6; have r7 := KRF.cell 7; simp at r0 r1 r2 r3 r4 r5 r6 r7
            clear KRF
            exact bodyPost_ret (v := .tuple #[.int .i64 0, st0, .bool true]) (by simp [results, Tryz.results57, go_sem, r0, r1, r2, r3, r4, r5, r6, r7]) rfl ⟨rfl, g4, cp4, gn, c3, _, _, _, HCF.out, HF.out.1, HF.out.2.1, HF.out.2.2, (HD.out F HCF.out).p, by omega, by omega⟩
end Go.Proofs.YtnepogddjinpoaaGreatDoor

namespace Go.Proofs.YtnepogddjinpoaaGreatDoor
open Go.RowKit
set_option linter.unusedVariables false
set_option linter.unusedSimpArgs false

/-- The example's units: one, of three nodes. -/
structure ExU (w : World) (N gu cu gn cn : Nat) (vp : Value) : Prop where
  u : AtB w gu (unitE gn cn)
  n : AtB w gn (exNodesE vp)
  p : ExPipe w N vp
  guN : N ≤ gu
  gnN : N ≤ gn
set_option maxHeartbeats 4000000 in
set_option maxRecDepth 100000 in
theorem infer_ex (w : World) (N gd g c : Nat) (vp : Value) (D : ExD w N gd g c vp) (hN : N ≤ w.heap.size) :
    Calls Tryz.prog 33 #[.slice (some ⟨gd, 0, none⟩) 1 1] w fun e w' => ∃ gu cu gn cn, e = .returned (.tuple #[.slice (some ⟨gu, 0, none⟩) 1 cu, .int .i64 0, .int .i64 0]) ∧ ExU w' N gu cu gn cn vp ∧ Below w.heap.size w w' := by
  go_enter Tryz.func33, Tryz.ntmps33
  go_wp2_with fail
  refine (check22_ex w N gd g c vp D).mono ?_
  rintro e w1 ⟨rfl, hb1⟩
  have C1 := Chg.of_below (S := []) hb1
  have HP := True.intro
  go_wp2_with fail
  refine name_world fun W hW => ?_
  have C2 : Chg [] w W := by subst hW; (repeat' (first | with_reducible exact C1 | with_reducible exact Chg.refl _ _ | with_reducible refine Chg.alloc ?_ _ | with_reducible refine Chg.drew ?_ | with_reducible refine Chg.drewN ?_ _ | with_reducible refine Chg.set_ ?_ _ _ (by first | (simp; done) | (simp; omega) | omega)))
  have CW : Chg [] w1 W := by subst hW; (repeat' (first | with_reducible exact Chg.refl _ _ | with_reducible refine Chg.alloc ?_ _ | with_reducible refine Chg.drew ?_ | with_reducible refine Chg.drewN ?_ _ | with_reducible refine Chg.set_ ?_ _ _ (by first | (simp; done) | (simp; omega) | omega)))
  have K : Blk W w1.heap.size 115 #[.slice (some ⟨gd, 0, none⟩) 1 1, .slice none 0 0, .slice none 0 0, .slice none 0 0, .slice none 0 0, .int .i64 0, .int .i64 0, .int .i64 0] := by subst hW; (repeat' (first | with_reducible exact Blk.new_ (by first | rfl | (simp; done) | (simp; omega)) | with_reducible refine Blk.alloc_ ?_ | with_reducible refine Blk.drew ?_ | with_reducible refine Blk.drewN ?_ _ | with_reducible refine Blk.far_ ?_ (by first | (simp; done) | (simp; omega) | omega) | with_reducible apply Blk.set_eq | rfl))
  have D2 := D.chg C2 (by simp)
  have s1 := C1.size
  have sW : w1.heap.size < W.heap.size := K.lt
  have HC1 := hide C1
  have D1 := D.chg C1 (by simp)
  clear hW hb1
  refine (unit25_ex W w1.heap.size N gd g c vp K (fun w' h => D1.chg (S := []) ((CW.mono (S' := [w1.heap.size]) (by simp)).trans h (fun x hx => .inl hx) |>.mono (by intro x hx; simp at hx; subst hx; exact .inr (Nat.le_refl _))) (by simp))).mono ?_
  rintro e w3 ⟨rfl, gu, cu, gn, cn, v2, v3, v4, C3, K3, aU, aN, hE, hgu, hgn⟩
  have HC3 := hide ((C2.mono (S' := [w1.heap.size]) (by simp)).trans C3 (fun x hx => .inl hx) |>.mono (S' := []) (by intro x hx; simp at hx; subst hx; exact .inr s1))
  have HU : Hid (ExU w3 N gu cu gn cn vp) := ExU.mk aU aN hE (by omega) (by omega)
  have k0 := K3.cell 0; have k1 := K3.cell 1; have k2 := K3.cell 2; have k3 := K3.cell 3; have k4 := K3.cell 4; have k5 := K3.cell 5; have k6 := K3.cell 6; have k7 := K3.cell 7; simp at k0 k1 k2 k3 k4 k5 k6 k7
  have l3 := K3.lt
  clear K3 aU aN hE C3 K D2 CW C2 C1 D1 D HP
  go_wp2_with fail
  go_ret3
  refine ⟨gu, cu, gn, cn, rfl, ?_⟩
  refine name_it (C := fun W4 => ExU W4 N gu cu gn cn vp ∧ Below w.heap.size w W4) fun W4 hW4 => ?_
  have C4 : Chg [] w3 W4 := by subst hW4; (repeat' (first | with_reducible exact Chg.refl _ _ | with_reducible refine Chg.alloc ?_ _ | with_reducible refine Chg.drew ?_ | with_reducible refine Chg.drewN ?_ _ | with_reducible refine Chg.set_ ?_ _ _ (by first | (simp; done) | (simp; omega) | omega)))
  exact ⟨⟨HU.out.u.chg C4 (by simp), HU.out.n.chg C4 (by simp), HU.out.p.chg C4 (by simp), HU.out.guN, HU.out.gnN⟩, (HC3.out.trans C4 (by simp)).bel⟩
set_option maxHeartbeats 4000000 in
set_option maxRecDepth 100000 in
theorem compile_ex (w : World) : Calls Tryz.prog 19 #[.string exText] w fun e w' => ∃ gu cu gn cn vp, e = .returned (.tuple #[.slice (some ⟨gu, 0, none⟩) 1 cu, .int .i64 0, .int .i64 0]) ∧ ExU w' w.heap.size gu cu gn cn vp ∧ Below w.heap.size w w' := by
  go_enter Tryz.func19, Tryz.ntmps19
  go_wp2_with fail
  refine (parse20_ex w).mono ?_
  rintro e w1 ⟨gd, g, c, vp, rfl, D, hb1⟩
  have hs := hb1.size
  go_wp2_with fail
  refine (infer_ex w1 w.heap.size gd g c vp D hs).mono ?_
  rintro e w2 ⟨gu, cu, gn, cn, rfl, U, hb2⟩
  go_wp2_with fail
  go_ret3
  exact ⟨gu, cu, gn, cn, vp, rfl, U, below_step hb1 hb2⟩
end Go.Proofs.YtnepogddjinpoaaGreatDoor
