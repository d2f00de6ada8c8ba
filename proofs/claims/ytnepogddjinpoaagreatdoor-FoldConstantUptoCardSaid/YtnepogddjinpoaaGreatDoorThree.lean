/-
  A region 'a, b, c = append(a, x), append(b, y), append(c, z)' that draws its order: whatever the order, three new rows.
-/
import Derived.Test.YtnepogddjinpoaaGreatDoorM1
import Derived.Deep.RegionLaw
import Derived.StillTail
namespace Go.Proofs.YtnepogddjinpoaaGreatDoor
open Go.RowKit
set_option linter.unusedVariables false
set_option linter.unusedSimpArgs false

/-- How many of the first n operations have not come up. -/
def remB : Nat → Array Bool → Nat
  | 0, _ => 0
  | n + 1, l => remB n l + if l.getD n true = false then 1 else 0
theorem remB_set {i : Nat} {l : Array Bool} (h : l.getD i true = false) : ∀ n, remB n (l.setIfInBounds i true) + (if i < n then 1 else 0) = remB n l := by
  have hi : i < l.size := by
    rcases Nat.lt_or_ge i l.size with h1 | h1
    · exact h1
    · simp [Array.getElem?_eq_none h1] at h
  intro n
  induction n with
  | zero => simp [remB]
  | succ n ih =>
    simp only [remB]
    by_cases hn : i = n
    · subst hn
      have e1 : (l.setIfInBounds i true).getD i true = true := by simp [hi]
      rw [e1]
      simp at ih
      simp [ih, h]
    · rw [getD_set_ne true hn]
      by_cases h2 : i < n
      · simp [h2, show i < n + 1 by omega] at ih ⊢; omega
      · simp [h2, show ¬ i < n + 1 by omega] at ih ⊢; omega
section
variable {P : Program} {md : Region.Mode} {ops : Array Oper} {Q : Exit → Act → World → Prop}
theorem wpAny_inv (I : Array Bool → Act → World → Prop)
    (h : ∀ l a w, I l a w → wpAny P md ops Q (remB ops.size l) l a w ∨ (Region.ready md ops l ≠ [] ∧ ∀ i ∈ Region.ready md ops l, wpOp P ops Q i (I (l.setIfInBounds i true)) a w)) :
    ∀ n l a w, remB ops.size l = n → I l a w → wpAny P md ops Q n l a w := by
  intro n
  induction n with
  | zero =>
    intro l a w hn hI
    rcases h l a w hI with h1 | ⟨h1, _⟩
    · rw [hn] at h1; exact h1
    · obtain ⟨i, hi⟩ := List.exists_mem_of_ne_nil _ h1
      obtain ⟨h2, o, h3, _⟩ := mem_ready.1 hi
      have h4 : i < ops.size := (Array.getElem?_eq_some_iff.1 h3).1
      have := remB_set h2 ops.size
      simp [h4] at this; omega
  | succ n ih =>
    intro l a w hn hI
    rcases h l a w hI with h1 | ⟨h1, h2⟩
    · rw [hn] at h1; exact h1
    · refine ⟨fun h0 => absurd h0 h1, fun i hi => ?_⟩
      obtain ⟨h3, o, h4, _⟩ := mem_ready.1 hi
      have h5 : i < ops.size := (Array.getElem?_eq_some_iff.1 h4).1
      have h6 := remB_set h3 ops.size
      simp [h5] at h6
      exact wpOp_mono (fun a' w' hI' => ih _ a' w' (by omega) hI') (h2 i hi)
theorem wpOp_run {i : Nat} {o : Oper} {K : Act → World → Prop} {a : Act} {w w' : World} {v : Value} (hi : ops[i]? = some o) (hg : o.guard = none) (hr : (execOp a.eval o).run P w = .ok (.value v) w') (h : K (a.put o.dst v) w') : wpOp P ops Q i K a w := by
  unfold wpOp
  simp only [hi]
  have hw : Region.wanted o (yielded ops a.tmps) = true := by simp [Region.wanted, hg]
  rw [if_pos hw]
  refine .inl ?_
  unfold Oper.wp
  rw [hr]
  exact h
/-- The three statements' operations: loads, new blocks, appends; what comes behind them waits for the last append. -/
structure Three (P : Program) (ops : Array Oper) (a1 : Act) (W : World) (E : Nat → TypeId) (c : Nat → Value) : Prop where
  size : ops.size = 30
  load : ∀ r, r < 3 → ∃ o, ops[6 + 6 * r]? = some o ∧ o.guard = none ∧ o.dst = some (156 + 6 * r) ∧ (∀ e ∈ o.after, Region.binds .any e = true → e.on < 21 ∧ e.on % 6 = 5) ∧ ∀ (a : Act) (w : World), a.tmps[155 + 6 * r]? = a1.tmps[155 + 6 * r]? → Below W.heap.size W w → (execOp a.eval o).run P w = .ok (.value (.slice none 0 0)) w
  make : ∀ r, r < 3 → ∃ o, ops[7 + 6 * r]? = some o ∧ o.guard = none ∧ o.dst = some (157 + 6 * r) ∧ (∀ e ∈ o.after, Region.binds .any e = false) ∧ ∀ (a : Act) (w : World), (execOp a.eval o).run P w = .ok (.value (.slice (some ⟨w.heap.size, 0, none⟩) 1 1)) (w.alloc (.cells #[c r] (E r)))
  app : ∀ r, r < 3 → ∃ o, ops[8 + 6 * r]? = some o ∧ o.guard = none ∧ o.dst = some (158 + 6 * r) ∧ (∀ e ∈ o.after, Region.binds .any e = true → e.on = 6 + 6 * r ∨ e.on = 7 + 6 * r ∨ (0 < r ∧ e.on = 2 + 6 * r)) ∧
    (∃ e ∈ o.after, Region.binds .any e = true ∧ e.on = 6 + 6 * r) ∧ (∃ e ∈ o.after, Region.binds .any e = true ∧ e.on = 7 + 6 * r) ∧ (0 < r → ∃ e ∈ o.after, Region.binds .any e = true ∧ e.on = 2 + 6 * r) ∧
    ∀ (a : Act) (w : World) (g : Nat), a.tmps[156 + 6 * r]? = some (.slice none 0 0) → a.tmps[157 + 6 * r]? = some (.slice (some ⟨g, 0, none⟩) 1 1) → Blk w g (E r) #[c r] → Below W.heap.size W w → ∃ v w', (execOp a.eval o).run P w = .ok (.value v) w' ∧ w'.ownsRow W.heap.size (E r) 1 v 1 [c r] ∧ Below w.heap.size w w'
  rest : ∀ i o, 21 ≤ i → ops[i]? = some o → ∃ e ∈ o.after, Region.binds .any e = true ∧ e.on = 20
/-- Where the walk stands: what has come up is done. -/
structure ThreeI (W : World) (a1 : Act) (E : Nat → TypeId) (c : Nat → Value) (l : Array Bool) (a : Act) (w : World) : Prop where
  size : l.size = 30
  low : ∀ j, j < 6 → l.getD j false = true
  low2 : ∀ r j, r < 3 → j < 3 → 9 + 6 * r + j < 21 → l.getD (9 + 6 * r + j) false = true
  high : ∀ j, 21 ≤ j → l.getD j false = false
  shut : ∀ r, r < 3 → l.getD (8 + 6 * r) false = true → l.getD (6 + 6 * r) false = true ∧ l.getD (7 + 6 * r) false = true ∧ (0 < r → l.getD (2 + 6 * r) false = true)
  tsize : a.tmps.size = a1.tmps.size
  defers : a.defers = a1.defers
  far : ∀ t, (∀ r, r < 3 → t ≠ 156 + 6 * r ∧ t ≠ 157 + 6 * r ∧ t ≠ 158 + 6 * r) → a.tmps[t]? = a1.tmps[t]?
  load : ∀ r, r < 3 → l.getD (6 + 6 * r) false = true → a.tmps[156 + 6 * r]? = some (.slice none 0 0)
  make : ∀ r, r < 3 → l.getD (7 + 6 * r) false = true → ∃ g, a.tmps[157 + 6 * r]? = some (.slice (some ⟨g, 0, none⟩) 1 1) ∧ Blk w g (E r) #[c r]
  app : ∀ r, r < 3 → l.getD (8 + 6 * r) false = true → ∃ v, a.tmps[158 + 6 * r]? = some v ∧ w.ownsRow W.heap.size (E r) 1 v 1 [c r]
  bel : Below W.heap.size W w
theorem getD_set_self {l : Array Bool} {i : Nat} (h : i < l.size) : (l.setIfInBounds i true).getD i false = true := by simp [h]
/-- One operation more. -/
theorem ThreeI.step {W : World} {a1 : Act} {E : Nat → TypeId} {c : Nat → Value} {l : Array Bool} {a : Act} {w w' : World} (h : ThreeI W a1 E c l a w) (hb : Below w.heap.size w w') {r k : Nat} (hr : r < 3) (hk : k < 3) (v : Value)
    (hlt : 158 + 6 * r < a1.tmps.size)
    (hshut : k = 2 → l.getD (6 + 6 * r) false = true ∧ l.getD (7 + 6 * r) false = true ∧ (0 < r → l.getD (2 + 6 * r) false = true))
    (h0 : k = 0 → v = .slice none 0 0) (h1 : k = 1 → ∃ g, v = .slice (some ⟨g, 0, none⟩) 1 1 ∧ Blk w' g (E r) #[c r]) (h2 : k = 2 → w'.ownsRow W.heap.size (E r) 1 v 1 [c r]) :
    ThreeI W a1 E c (l.setIfInBounds (6 + k + 6 * r) true) (a.put (some (156 + k + 6 * r)) v) w' := by
  have hcase : ∀ j, (l.setIfInBounds (6 + k + 6 * r) true).getD j false = true → j = 6 + k + 6 * r ∨ l.getD j false = true := by
    intro j hj
    by_cases e : 6 + k + 6 * r = j
    · exact .inl e.symm
    · rw [getD_set_ne false e] at hj; exact .inr hj
  have hself : (a.put (some (156 + k + 6 * r)) v).tmps[156 + k + 6 * r]? = some v := by
    have := h.tsize
    simp [Act.put, show 156 + k + 6 * r < a.tmps.size by omega]
  have hother : ∀ t, 156 + k + 6 * r ≠ t → (a.put (some (156 + k + 6 * r)) v).tmps[t]? = a.tmps[t]? := fun t e => by simp [Act.put, Array.getElem?_setIfInBounds_ne e]
  refine ⟨by simp [h.size], fun j hj => getD_set_true (h.low j hj), fun r' j hr' hj hlt' => getD_set_true (h.low2 r' j hr' hj hlt'), fun j hj => ?_, fun r' hr' ht => ?_, by simp [Act.put, h.tsize], h.defers, fun t ht => ?_, fun r' hr' ht => ?_, fun r' hr' ht => ?_, fun r' hr' ht => ?_, below_step h.bel hb⟩
  · rw [getD_set_ne false (by omega)]; exact h.high j hj
  · rcases hcase _ ht with e | e
    · obtain rfl : k = 2 := by omega
      obtain rfl : r' = r := by omega
      obtain ⟨q1, q2, q3⟩ := hshut rfl
      exact ⟨getD_set_true q1, getD_set_true q2, fun hp => getD_set_true (q3 hp)⟩
    · obtain ⟨q1, q2, q3⟩ := h.shut r' hr' e
      exact ⟨getD_set_true q1, getD_set_true q2, fun hp => getD_set_true (q3 hp)⟩
  · have hne : 156 + k + 6 * r ≠ t := by
      obtain ⟨q1, q2, q3⟩ := ht r hr
      rcases (show k = 0 ∨ k = 1 ∨ k = 2 by omega) with rfl | rfl | rfl <;> omega
    rw [hother t hne]; exact h.far t ht
  · rcases hcase _ ht with e | e
    · obtain rfl : k = 0 := by omega
      obtain rfl : r' = r := by omega
      have := h0 rfl
      subst this
      simpa using hself
    · by_cases e2 : 156 + k + 6 * r = 156 + 6 * r'
      · have e3 : k = 0 := by omega
        have e4 := h0 e3
        rw [← e2, hself, e4]
      · rw [hother _ e2]; exact h.load r' hr' e
  · rcases hcase _ ht with e | e
    · obtain rfl : k = 1 := by omega
      obtain rfl : r' = r := by omega
      obtain ⟨g, q1, q2⟩ := h1 rfl
      subst q1
      exact ⟨g, by simpa using hself, q2⟩
    · by_cases e2 : 156 + k + 6 * r = 157 + 6 * r'
      · obtain rfl : k = 1 := by omega
        obtain rfl : r' = r := by omega
        obtain ⟨g, q1, q2⟩ := h1 rfl
        subst q1
        exact ⟨g, by simpa using hself, q2⟩
      · obtain ⟨g, q1, q2⟩ := h.make r' hr' e
        exact ⟨g, by rw [hother _ e2]; exact q1, q2.below hb q2.lt⟩
  · rcases hcase _ ht with e | e
    · obtain rfl : k = 2 := by omega
      obtain rfl : r' = r := by omega
      exact ⟨v, by simpa using hself, h2 rfl⟩
    · by_cases e2 : 156 + k + 6 * r = 158 + 6 * r'
      · obtain rfl : k = 2 := by omega
        obtain rfl : r' = r := by omega
        exact ⟨v, by simpa using hself, h2 rfl⟩
      · obtain ⟨u, q1, q2⟩ := h.app r' hr' e
        exact ⟨u, by rw [hother _ e2]; exact q1, own_chg q2 (Chg.of_below (S := []) hb) (by simp)⟩
theorem getD_false_true {l : Array Bool} {j : Nat} (h : l.getD j false = true) : l.getD j true = true := by
  rcases Nat.lt_or_ge j l.size with h1 | h1
  · simp [h1] at h ⊢; exact h
  · simp [Array.getElem?_eq_none h1]
theorem getD_true_false {l : Array Bool} {j : Nat} (hj : j < l.size) (h : l.getD j false = false) : l.getD j true = false := by
  simp [hj] at h ⊢; exact h
theorem three_any {a1 : Act} {W : World} {E : Nat → TypeId} {c : Nat → Value} (H : Three P ops a1 W E c) (hsz : 170 < a1.tmps.size)
    (hend : ∀ l a w, ThreeI W a1 E c l a w → (∀ r, r < 3 → l.getD (6 + 6 * r) false = true ∧ l.getD (7 + 6 * r) false = true ∧ l.getD (8 + 6 * r) false = true) → wpAny P .any ops Q (remB ops.size l) l a w) {l : Array Bool} {a : Act} {w : World} (h : ThreeI W a1 E c l a w) :
    ∀ n, remB ops.size l = n → wpAny P .any ops Q n l a w := by
  intro n hn
  refine wpAny_inv (fun l a w => ThreeI W a1 E c l a w) ?_ n l a w hn h
  clear h hn n l a w
  intro l a w h
  cases h20 : l.getD 20 false with
  | true =>
    left
    refine hend l a w h ?_
    obtain ⟨p1, p2, p3⟩ := h.shut 2 (by omega) h20
    obtain ⟨q1, q2, q3⟩ := h.shut 1 (by omega) (p3 (by omega))
    obtain ⟨s1, s2, _⟩ := h.shut 0 (by omega) (q3 (by omega))
    intro r hr
    match r, hr with
    | 0, _ => exact ⟨s1, s2, q3 (by omega)⟩
    | 1, _ => exact ⟨q1, q2, p3 (by omega)⟩
    | 2, _ => exact ⟨p1, p2, h20⟩
  | false =>
    right
    constructor
    · -- something may come up
      have hmin : ∃ r, r < 3 ∧ l.getD (8 + 6 * r) false = false ∧ (0 < r → l.getD (2 + 6 * r) false = true) := by
        cases h8 : l.getD 8 false with
        | false => exact ⟨0, by omega, h8, by omega⟩
        | true =>
          cases h14 : l.getD 14 false with
          | false => exact ⟨1, by omega, h14, fun _ => h8⟩
          | true => exact ⟨2, by omega, h20, fun _ => h14⟩
      obtain ⟨r, hr, hA, hP⟩ := hmin
      intro h0
      have no : ∀ i, i ∈ Region.ready .any ops l → False := fun i hi => by rw [h0] at hi; cases hi
      obtain ⟨oL, l1, l2, l3, l4, _⟩ := H.load r hr
      obtain ⟨oB, b1, b2, b3, b4, _⟩ := H.make r hr
      obtain ⟨oA, a1', a2, a3, a4, _⟩ := H.app r hr
      cases hL : l.getD (6 + 6 * r) false with
      | false =>
        refine no (6 + 6 * r) (mem_ready.2 ⟨getD_true_false (by rw [h.size]; omega) hL, oL, l1, fun e he hb => ?_⟩)
        obtain ⟨e1, e2⟩ := l4 e he hb
        rcases (show e.on < 6 ∨ e.on = 11 ∨ e.on = 17 by omega) with q | q | q
        · exact h.low _ q
        · rw [q]; exact h.low2 0 2 (by omega) (by omega) (by omega)
        · rw [q]; exact h.low2 1 2 (by omega) (by omega) (by omega)
      | true =>
        cases hB : l.getD (7 + 6 * r) false with
        | false =>
          refine no (7 + 6 * r) (mem_ready.2 ⟨getD_true_false (by rw [h.size]; omega) hB, oB, b1, fun e he hb => ?_⟩)
          rw [b4 e he] at hb; cases hb
        | true =>
          refine no (8 + 6 * r) (mem_ready.2 ⟨getD_true_false (by rw [h.size]; omega) hA, oA, a1', fun e he hb => ?_⟩)
          rcases a4 e he hb with q | q | ⟨q1, q⟩
          · rw [q]; exact hL
          · rw [q]; exact hB
          · rw [q]; exact hP q1
    · intro i hi
      obtain ⟨hun, o, ho, hall⟩ := mem_ready.1 hi
      have hlt : i < 30 := by have := (Array.getElem?_eq_some_iff.1 ho).1; rw [H.size] at this; exact this
      have h21 : i < 21 := by
        rcases Nat.lt_or_ge i 21 with q | q
        · exact q
        · obtain ⟨e, he, hb, hon⟩ := H.rest i o q ho
          have := hall e he hb
          rw [hon, h20] at this; cases this
      have hnot : ∀ j, l.getD j false = true → i ≠ j := by
        intro j hj e
        subst e
        rw [getD_false_true hj] at hun; cases hun
      have hwhere : ∃ r k, r < 3 ∧ k < 3 ∧ i = 6 + k + 6 * r := by
        rcases Nat.lt_or_ge i 6 with q | q
        · exact absurd rfl (hnot i (h.low i q))
        · rcases (show (i - 6) % 6 < 3 ∨ 3 ≤ (i - 6) % 6 by omega) with q2 | q2
          · exact ⟨(i - 6) / 6, (i - 6) % 6, by omega, q2, by omega⟩
          · have e : i = 9 + 6 * ((i - 6) / 6) + ((i - 6) % 6 - 3) := by omega
            exact absurd e (hnot _ (h.low2 _ _ (by omega) (by omega) (by omega)))
      obtain ⟨r, k, hr, hk, rfl⟩ := hwhere
      have hfar : ∀ r', r' < 3 → a.tmps[155 + 6 * r']? = a1.tmps[155 + 6 * r']? := fun r' _ => h.far _ (fun r2 _ => by omega)
      rcases (show k = 0 ∨ k = 1 ∨ k = 2 by omega) with rfl | rfl | rfl
      · obtain ⟨oL, l1, l2, l3, l4, l5⟩ := H.load r hr
        refine wpOp_run (show ops[6 + 0 + 6 * r]? = some oL by simpa using l1) l2 (l5 a w (hfar r hr) h.bel) ?_
        rw [l3]
        exact h.step (k := 0) (Below.refl _ _) hr (by omega) _ (by omega) (fun e => by omega) (fun _ => rfl) (fun e => by omega) (fun e => by omega)
      · obtain ⟨oB, b1, b2, b3, b4, b5⟩ := H.make r hr
        refine wpOp_run (show ops[6 + 1 + 6 * r]? = some oB by rw [← b1]) b2 (b5 a w) ?_
        rw [b3]
        exact h.step (k := 1) ((Below.refl _ _).alloc (Nat.le_refl _) _) hr (by omega) _ (by omega) (fun e => by omega) (fun e => by omega) (fun _ => ⟨_, rfl, Blk.new w (E r) #[c r]⟩) (fun e => by omega)
      · obtain ⟨oA, q1, q2, q3, q4, ⟨e1, q5, q6, q7⟩, ⟨e2, q8, q9, q10⟩, q11, q12⟩ := H.app r hr
        have ho' : o = oA := by
          have : ops[6 + 2 + 6 * r]? = some oA := by rw [← q1]
          rw [this] at ho; injection ho with ho; exact ho.symm
        subst ho'
        have hL := hall e1 q5 q6
        have hB := hall e2 q8 q9
        rw [q7] at hL
        rw [q10] at hB
        have hP : 0 < r → l.getD (2 + 6 * r) false = true := fun hp => by
          obtain ⟨e3, z1, z2, z3⟩ := q11 hp
          have := hall e3 z1 z2
          rw [z3] at this; exact this
        obtain ⟨g, g1, g2⟩ := h.make r hr hB
        obtain ⟨v, w', r1, r2, r3⟩ := q12 a w g (h.load r hr hL) g1 g2 h.bel
        refine wpOp_run ho q2 r1 ?_
        rw [q3]
        exact h.step (k := 2) r3 hr (by omega) v (by omega) (fun _ => ⟨hL, hB, hP⟩) (fun e => by omega) (fun e => by omega) (fun _ => r2)
theorem highB : ∀ j, j < 30 → 21 ≤ j → (#[true, true, true, true, true, true, false, false, false, true, true, true, false, false, false, true, true, true, false, false, false, false, false, false, false, false, false, false, false, false] : Array Bool).getD j false = false := by decide
theorem ThreeI.start {W w : World} {E : Nat → TypeId} {c : Nat → Value} {l : Array Bool} {a : Act} (hl : l = #[true, true, true, true, true, true, false, false, false, true, true, true, false, false, false, true, true, true, false, false, false, false, false, false, false, false, false, false, false, false]) (hb : Below W.heap.size W w) : ThreeI W a E c l a w := by
  subst hl
  refine ⟨rfl, fun j hj => ?_, fun r j hr hj hlt => ?_, fun j hj => ?_, fun r hr h => ?_, rfl, rfl, fun _ _ => rfl, fun r hr h => ?_, fun r hr h => ?_, fun r hr h => ?_, hb⟩
  · match j, hj with
    | 0, _ => rfl | 1, _ => rfl | 2, _ => rfl | 3, _ => rfl | 4, _ => rfl | 5, _ => rfl
  · match r, hr, j, hj with
    | 0, _, 0, _ => rfl | 0, _, 1, _ => rfl | 0, _, 2, _ => rfl
    | 1, _, 0, _ => rfl | 1, _, 1, _ => rfl | 1, _, 2, _ => rfl
    | 2, _, 0, _ => omega | 2, _, 1, _ => omega | 2, _, 2, _ => omega
  · rcases Nat.lt_or_ge j 30 with h | h
    · exact highB j h hj
    · simp [Array.getElem?_eq_none (show (#[true, true, true, true, true, true, false, false, false, true, true, true, false, false, false, true, true, true, false, false, false, false, false, false, false, false, false, false, false, false] : Array Bool).size ≤ j from h)]
  · match r, hr, h with
    | 0, _, h => cases h | 1, _, h => cases h | 2, _, h => cases h
  · match r, hr, h with
    | 0, _, h => cases h | 1, _, h => cases h | 2, _, h => cases h
  · match r, hr, h with
    | 0, _, h => cases h | 1, _, h => cases h | 2, _, h => cases h
  · match r, hr, h with
    | 0, _, h => cases h | 1, _, h => cases h | 2, _, h => cases h
def fullB : Array Bool := #[true, true, true, true, true, true, true, true, true, true, true, true, true, true, true, true, true, true, true, true, true, false, false, false, false, false, false, false, false, false]
theorem fullB_low : ∀ i, i < 21 → fullB.getD i false = true := by decide
theorem fullB_high : ∀ i, i < 30 → 21 ≤ i → fullB.getD i false = false := by decide
def putsA (a : Act) (x0 v0 x1 v1 x2 v2 : Value) : Act := ((((((((a.put (some 156) (.slice none 0 0)).put (some 157) x0).put (some 158) v0).put (some 162) (.slice none 0 0)).put (some 163) x1).put (some 164) v1).put (some 168) (.slice none 0 0)).put (some 169) x2).put (some 170) v2
theorem put_defersS (a : Act) (d : Tmp) (v : Value) : (a.put (some d) v).defers = a.defers := rfl
theorem put_tmpsS (a : Act) (d : Tmp) (v : Value) : (a.put (some d) v).tmps = a.tmps.setIfInBounds d v := rfl
theorem act_ext {a b : Act} (h1 : a.tmps = b.tmps) (h2 : a.defers = b.defers) : a = b := by cases a; cases b; simp_all
theorem ThreeI.done {W : World} {a1 : Act} {E : Nat → TypeId} {c : Nat → Value} {l : Array Bool} {a : Act} {w : World} (h : ThreeI W a1 E c l a w) (hsz : 170 < a1.tmps.size) (hall : ∀ r, r < 3 → l.getD (6 + 6 * r) false = true ∧ l.getD (7 + 6 * r) false = true ∧ l.getD (8 + 6 * r) false = true) :
    l = fullB ∧ ∃ x0 v0 x1 v1 x2 v2, a = putsA a1 x0 v0 x1 v1 x2 v2 ∧ w.ownsRow W.heap.size (E 0) 1 v0 1 [c 0] ∧ w.ownsRow W.heap.size (E 1) 1 v1 1 [c 1] ∧ w.ownsRow W.heap.size (E 2) 1 v2 1 [c 2] := by
  constructor
  · apply Array.ext
    · rw [h.size]; rfl
    · intro i hi1 hi2
      rw [h.size] at hi1
      have e : l.getD i false = fullB.getD i false := by
        rcases Nat.lt_or_ge i 6 with q | q
        · rw [h.low i q]
          exact (fullB_low i (by omega)).symm
        rcases Nat.lt_or_ge i 21 with q2 | q2
        · have e2 : fullB.getD i false = true := fullB_low i q2
          rw [e2]
          have hr : (i - 6) / 6 < 3 := by omega
          obtain ⟨z1, z2, z3⟩ := hall _ hr
          rcases (show (i - 6) % 6 = 0 ∨ (i - 6) % 6 = 1 ∨ (i - 6) % 6 = 2 ∨ 3 ≤ (i - 6) % 6 by omega) with k | k | k | k
          · rw [show i = 6 + 6 * ((i - 6) / 6) by omega]; exact z1
          · rw [show i = 7 + 6 * ((i - 6) / 6) by omega]; exact z2
          · rw [show i = 8 + 6 * ((i - 6) / 6) by omega]; exact z3
          · rw [show i = 9 + 6 * ((i - 6) / 6) + ((i - 6) % 6 - 3) by omega]
            exact h.low2 _ _ hr (by omega) (by omega)
        · rw [h.high i q2]
          exact (fullB_high i hi1 q2).symm
      have e1 : l.getD i false = l[i] := by simp [h.size, hi1]
      have e3 : fullB.getD i false = fullB[i] := by rw [Array.getD_eq_getD_getElem?, Array.getElem?_eq_getElem hi2]; rfl
      rw [← e1, e, e3]
  · obtain ⟨p0, p1, p2⟩ := hall 0 (by omega)
    obtain ⟨q0, q1, q2⟩ := hall 1 (by omega)
    obtain ⟨s0, s1, s2⟩ := hall 2 (by omega)
    have l0 := h.load 0 (by omega) p0; have l1 := h.load 1 (by omega) q0; have l2 := h.load 2 (by omega) s0
    obtain ⟨g0, m0, _⟩ := h.make 0 (by omega) p1
    obtain ⟨g1, m1, _⟩ := h.make 1 (by omega) q1
    obtain ⟨g2, m2, _⟩ := h.make 2 (by omega) s1
    obtain ⟨v0, a0, o0⟩ := h.app 0 (by omega) p2
    obtain ⟨v1, a1', o1⟩ := h.app 1 (by omega) q2
    obtain ⟨v2, a2, o2⟩ := h.app 2 (by omega) s2
    refine ⟨.slice (some ⟨g0, 0, none⟩) 1 1, v0, .slice (some ⟨g1, 0, none⟩) 1 1, v1, .slice (some ⟨g2, 0, none⟩) 1 1, v2, act_ext ?_ ?_, o0, o1, o2⟩
    rotate_left
    · simp only [putsA, put_defersS]
      exact h.defers
    apply Array.ext_getElem?
    intro i
    simp only [putsA, put_tmpsS]
    simp only [Array.getElem?_setIfInBounds, Array.size_setIfInBounds]
    by_cases e8 : 170 = i
    · subst e8; simpa [hsz] using a2
    by_cases e7 : 169 = i
    · subst e7; simpa [show 169 < a1.tmps.size by omega] using m2
    by_cases e6 : 168 = i
    · subst e6; simpa [show 168 < a1.tmps.size by omega] using l2
    by_cases e5 : 164 = i
    · subst e5; simpa [show 164 < a1.tmps.size by omega] using a1'
    by_cases e4 : 163 = i
    · subst e4; simpa [show 163 < a1.tmps.size by omega] using m1
    by_cases e3 : 162 = i
    · subst e3; simpa [show 162 < a1.tmps.size by omega] using l1
    by_cases e2 : 158 = i
    · subst e2; simpa [show 158 < a1.tmps.size by omega] using a0
    by_cases e1 : 157 = i
    · subst e1; simpa [show 157 < a1.tmps.size by omega] using m0
    by_cases e0 : 156 = i
    · subst e0; simpa [show 156 < a1.tmps.size by omega] using l0
    simp [e0, e1, e2, e3, e4, e5, e6, e7, e8]
    refine h.far i fun r hr => ?_
    match r, hr with
    | 0, _ => exact ⟨by omega, by omega, by omega⟩
    | 1, _ => exact ⟨by omega, by omega, by omega⟩
    | 2, _ => exact ⟨by omega, by omega, by omega⟩
/-- A slot that is written, as an operation: the walk writes the frame out. -/
theorem wpList_fake {P : Program} {ops : Array Oper} {Q : Exit → Act → World → Prop} {rest : List Oper} {a : Act} {w : World} (d : Tmp) (v : Value) (h : wpList P ops Q ({ dst := some d, op := .move (.const v), type := 0, pos := "", after := #[], guard := none } :: rest) a w) : wpList P ops Q rest (a.put (some d) v) w := by
  have this : wpList P ops Q rest (a.put (some d) v) w ∨ noRoomEvent ∈ Sem.events P (pure (Next.value v)) w #[] ∧ LetsOut Q := by
    have := h
    simpa [wpList, Oper.wp, Oper.upon, execOp, Region.wanted, Act.eval, Oper.asks, Sem.runT] using this
  rcases this with h | ⟨h, _⟩
  · exact h
  · rw [show Sem.events P (pure (Next.value v)) w #[] = #[] from rfl] at h
    simp at h
theorem three_tail {P : Program} {Q : Exit → Act → World → Prop} {l : List Oper} {a1 : Act} {W w : World} {E : Nat → TypeId} {c : Nat → Value} {b : Array Bool} (H : Three P l.toArray a1 W E c) (hsz : 170 < a1.tmps.size) (hw : Below W.heap.size W w)
    (hb : b = #[true, true, true, true, true, true, false, false, false, true, true, true, false, false, false, true, true, true, false, false, false, false, false, false, false, false, false, false, false, false]) (hseq : Region.seqB .any l.toArray 9 21 fullB = true)
    (h : ∀ x0 v0 x1 v1 x2 v2 w', Below W.heap.size W w' → w'.ownsRow W.heap.size (E 0) 1 v0 1 [c 0] → w'.ownsRow W.heap.size (E 1) 1 v1 1 [c 1] → w'.ownsRow W.heap.size (E 2) 1 v2 1 [c 2] → wpList P l.toArray Q (l.drop 21) (putsA a1 x0 v0 x1 v1 x2 v2) w') : wpAny P .any l.toArray Q 18 b a1 w := by
  have hl : l.length = 30 := by simpa using H.size
  refine three_any H hsz ?_ (ThreeI.start hb hw) 18 (by subst hb; rw [H.size]; rfl)
  intro l2 a w2 hI hall
  obtain ⟨rfl, x0, v0, x1, v1, x2, v2, rfl, o0, o1, o2⟩ := hI.done hsz hall
  have := wpAny_of_seq (md := .any) (P := P) (ops := l.toArray) (Q' := Q) (l.drop 21) 21 fullB (putsA a1 x0 v0 x1 v1 x2 v2) w2 (fun j => by simp [List.getElem?_drop]) (by rw [List.length_drop, hl]; exact hseq) (h x0 v0 x1 v1 x2 v2 w2 hI.bel o0 o1 o2)
  rw [List.length_drop, hl] at this
  rw [H.size]
  exact this
end
end Go.Proofs.YtnepogddjinpoaaGreatDoor
