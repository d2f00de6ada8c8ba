/-
  FoldOnce: folded again units stay.
-/
import Derived.Test.YtnepogddjinpoaaGreatDoorM7
import Derived.Test.YtnepogddjinpoaaGreatDoorP11
import Derived.Test.YtnepogddjinpoaaGreatDoorLaidL
namespace Go.Proofs.YtnepogddjinpoaaGreatDoor
open Go.RowKit
set_option linter.unusedVariables false
set_option linter.unusedSimpArgs false

theorem lift_numN : ∀ (n : Nat) (x : NT n), numN n x → numN (n + 1) (liftN n x) := by
  intro n
  induction n with
  | zero => intro x _; exact x.elim
  | succ n ih =>
    intro x h
    refine ⟨h.1, fun y hy => ?_, fun y hy => ?_⟩
    · have hy : y ∈ (NN.body x).map (liftN n) := hy
      obtain ⟨z, hz, rfl⟩ := List.mem_map.1 hy
      exact ih z (h.2.1 z hz)
    · have hy : y ∈ (NN.els x).map (liftN n) := hy
      obtain ⟨z, hz, rfl⟩ := List.mem_map.1 hy
      exact ih z (h.2.2 z hz)
/-- The numbers of what is folded. -/
theorem folds_num (B : Nat) : ∀ (n : Nat) (l out : List (NT n)), FoldsTo B n l out → (∀ x ∈ l, numN n x) → ∀ y ∈ out, numN n y := by
  intro n
  induction n with
  | zero =>
    intro l out h hl
    have h : out = l := h
    subst h
    exact hl
  | succ n ih =>
    intro l out h hl
    obtain ⟨mid, h1, rfl⟩ := h
    refine beside_mem (α := NT n) (P := numN (n + 1)) (fun x y hy => hy) mid ?_
    refine rows_mem (P := numN (n + 1)) (fun x hx o ho => ?_) h1
    obtain ⟨b, e, hb, he, hn⟩ := ho
    obtain ⟨hp, hB, hE⟩ := hl x hx
    have gb := ih x.body b hb hB
    have ge := ih x.els e he hE
    intro y hy
    cases hn with
    | told s h3 _ =>
      split at hy
      · cases hy
      · rw [List.mem_singleton.1 hy]
        exact ⟨fun c hc => (by cases hc), fun c hc => (by cases hc), fun c hc => (by cases hc)⟩
    | picked l' o' _ h3 h4 =>
      subst h4
      obtain ⟨z, hz, rfl⟩ := List.mem_map.1 hy
      refine lift_numN n z ?_
      rcases pick_cases h3 with rfl | rfl
      · exact gb z hz
      · exact ge z hz
    | kept h3 h4 =>
      rw [List.mem_singleton.1 hy]
      exact ⟨hp, gb, ge⟩
theorem sum_pt {α β : Type} {f : β → Nat} {g : α → Nat} : ∀ {l : List α} {out : List β}, out.length = l.length → (∀ (j : Nat) (a : α) (b : β), l[j]? = some a → out[j]? = some b → f b ≤ g a) → sumBy f out ≤ sumBy g l := by
  intro l
  induction l with
  | nil => intro out h _; cases out with | nil => exact Nat.le_refl _ | cons _ _ => simp at h
  | cons a l ih =>
    intro out h hp
    cases out with
    | nil => simp at h
    | cons b out =>
      have h1 := hp 0 a b rfl rfl
      have h2 := ih (out := out) (by simpa using h) (fun j x y hx hy => hp (j + 1) x y (by simpa using hx) (by simpa using hy))
      show f b + sumBy f out ≤ g a + sumBy g l
      omega
theorem FoldU.pt {n : Nat} {l out : List (UnitD n)} (h : FoldU n l out) {j : Nat} {a b : UnitD n} (ha : l[j]? = some a) (hb : out[j]? = some b) : ∃ bd : List (NT n), FoldsTo BB n a.body bd ∧ b = { a with body := bd } := by
  obtain ⟨bd, h1, h2⟩ := h.2 j a ha
  exact ⟨bd, h1, by rw [hb] at h2; injection h2⟩
theorem FoldU.src {n : Nat} {l out : List (UnitD n)} (h : FoldU n l out) {b : UnitD n} (hb : b ∈ out) : ∃ (a : UnitD n) (bd : List (NT n)), a ∈ l ∧ FoldsTo BB n a.body bd ∧ b = { a with body := bd } := by
  obtain ⟨j, hj⟩ := List.getElem?_of_mem hb
  have hlt : j < l.length := by rw [← h.1]; exact (List.getElem?_eq_some_iff.1 hj).1
  obtain ⟨bd, h1, h2⟩ := h.pt (List.getElem?_eq_getElem hlt) hj
  exact ⟨_, bd, List.getElem_mem hlt, h1, h2⟩
theorem FoldU.bare {n : Nat} {l out : List (UnitD n)} (h : FoldU n l out) : sumBy (bareU n) out ≤ sumBy (bareU n) l := by
  refine sum_pt h.1 (fun j a b ha hb => ?_)
  obtain ⟨bd, h1, rfl⟩ := h.pt ha hb
  have := folds_bare BB n _ _ h1
  show 1 + sumBy (bareN n) bd ≤ 1 + sumBy (bareN n) a.body
  omega
theorem FoldU.texts {n : Nat} {l out : List (UnitD n)} (h : FoldU n l out) : sumBy (textsU n) out ≤ sumBy (textsU n) l + BB * sumBy (bareU n) l := by
  have h1 : sumBy (textsU n) out ≤ sumBy (fun x => textsU n x + BB * bareU n x) l := sum_pt h.1 (fun j a b ha hb => by
    obtain ⟨bd, h1, rfl⟩ := h.pt ha hb
    have h2 := folds_texts BB n _ _ h1
    rw [split_sum] at h2
    show sumBy (textsN n) bd ≤ sumBy (textsN n) a.body + BB * (1 + sumBy (bareN n) a.body)
    rw [Nat.mul_add]
    omega)
  have h2 : ∀ r : List (UnitD n), sumBy (fun x => textsU n x + BB * bareU n x) r = sumBy (textsU n) r + BB * sumBy (bareU n) r := by
    intro r
    induction r with
    | nil => rfl
    | cons z r ihr =>
      show textsU n z + BB * bareU n z + sumBy (fun x => textsU n x + BB * bareU n x) r = textsU n z + sumBy (textsU n) r + BB * (bareU n z + sumBy (bareU n) r)
      rw [ihr, Nat.mul_add]; omega
  rw [h2] at h1
  exact h1
theorem FoldU.num {n : Nat} {l out : List (UnitD n)} (h : FoldU n l out) (hn : ∀ x ∈ l, ∀ y ∈ x.body, numN n y) : ∀ x ∈ out, ∀ y ∈ x.body, numN n y := by
  intro x hx
  obtain ⟨a, bd, ha, h1, rfl⟩ := h.src hx
  exact folds_num BB n _ _ h1 (hn a ha)
theorem FoldU.check {n : Nat} {l out : List (UnitD n)} (h : FoldU n l out) (hc : checkU n l = 0) : checkU n out = 0 := by
  have hmay := check_may hc
  have hd : maxBy (deepU n) l ≤ 17 ∧ l ≠ [] := by
    unfold checkU at hc
    split at hc
    · cases hc
    · rename_i h0
      split at hc
      · cases hc
      · exact ⟨by omega, h0⟩
  have each : ∀ x ∈ out, ∀ y ∈ x.body, mayN (out.length : Int) n y = true ∧ deepN n y ≤ 17 := by
    intro x hx
    obtain ⟨a, bd, ha, h1, rfl⟩ := h.src hx
    refine folds_may BB (out.length : Int) n _ _ 17 h1 (fun z hz => ⟨?_, ?_⟩)
    · rw [h.1]; exact hmay a ha z hz
    · have h2 : deepU n a ≤ 17 := Nat.le_trans (le_maxBy ha) hd.1
      have h3 : deepN n z ≤ deepU n a := le_maxBy (f := deepN n) hz
      omega
  unfold checkU
  have h0 : out ≠ [] := by
    intro e
    have := h.1
    rw [e] at this
    exact hd.2 (List.length_eq_zero_iff.1 this.symm)
  have h17 : ¬ 17 < maxBy (deepU n) out := by
    have : maxBy (deepU n) out ≤ 17 := maxBy_le (fun x hx => maxBy_le (fun y hy => (each x hx y hy).2))
    omega
  rw [if_neg h0, if_neg h17, if_pos]
  rw [List.all_eq_true]
  intro x hx
  rw [List.all_eq_true]
  exact fun y hy => (each x hx y hy).1
theorem FoldU.twice {n : Nat} {l x y : List (UnitD n)} (h : FoldU n l x) (h2 : FoldU n x y) : y = x := by
  apply List.ext_getElem?
  intro j
  by_cases hj : j < x.length
  · have hx : x[j]? = some x[j] := List.getElem?_eq_getElem hj
    have hl : j < l.length := by rw [← h.1]; exact hj
    obtain ⟨bd, h3, h4⟩ := h.pt (List.getElem?_eq_getElem hl) hx
    obtain ⟨b2, h5, h6⟩ := h2.2 j x[j] hx
    have h7 : x[j].body = bd := by rw [h4]
    rw [h7] at h5
    have h8 := folds_twice BB BB n _ _ _ h3 h5
    rw [h6, hx, h8]
    congr 1
    rw [← h7]
  · rw [List.getElem?_eq_none (by rw [h2.1]; omega), List.getElem?_eq_none (by omega)]
set_option maxHeartbeats 4000000 in
set_option maxRecDepth 100000 in
theorem foldOnce_any (n : Nat) (a : Option Addr) (c : Nat) (l : List (UnitD n)) (w : World) (hL : AtR (UnitR n) 18 anyB w a l) (hm : sumBy (massU n) l ≤ 1048576) (hn : ∀ x ∈ l, ∀ y ∈ x.body, numN n y) (hV : Vars w) :
    Calls Tryz.prog 5 #[.slice a l.length c] w fun e w' => e = .returned (.bool true) ∧ Below w.heap.size w w' := by
  have hb : sumBy (bareU n) l ≤ 1048576 := Nat.le_trans (sumBy_le l (fun x _ => by
    have := bare_le_sum x.body
    show 1 + sumBy (bareN n) x.body ≤ 1 + sumBy (massN n) x.body
    omega)) hm
  have ht : sumBy (textsU n) l ≤ 1048576 := Nat.le_trans (sumBy_le l (fun x _ => by
    have key : ∀ (k : Nat) (z : NT k), textsN k z ≤ massN k z := by
      intro k
      induction k with
      | zero => intro z; exact z.elim
      | succ k ih =>
        intro z
        have e2 := massN_succ k z
        have h1 := sumBy_le (f := textsN k) (g := massN k) (NN.body z) (fun y _ => ih y)
        have h2 := sumBy_le (f := textsN k) (g := massN k) (NN.els z) (fun y _ => ih y)
        rw [e2]
        show (NN.s z).length + sumBy (textsN k) (NN.body z) + sumBy (textsN k) (NN.els z) ≤ _
        omega
    have := sumBy_le (f := textsN n) (g := massN n) x.body (fun y _ => key n y)
    show sumBy (textsN n) x.body ≤ 1 + sumBy (massN n) x.body
    omega)) hm
  have cA := hide (alive41 w hV.1)
  have HV := hide hV
  have cF := hide (fun W (h : Below w.heap.size w W) => fold_any n anyB lasts_any a c l W (hL.on (UnitR.steady n) (lasts_any.stays h)) hb (by omega) hn (hV.below h))
  have HN := hide hn
  have HB := hide hb
  have HT := hide ht
  clear hL hm hn hV hb ht
  obtain ⟨m, hml⟩ : ∃ m, l.length = m := ⟨_, rfl⟩
  have cF1 : Hid (∀ W, Below w.heap.size w W → Calls Tryz.prog 16 #[.slice a m c] W (FoldTo n l W)) := by rw [← hml]; exact cF
  rw [hml]
  have HML := hide hml
  clear cF hml
  go_enter Tryz.func5, Tryz.ntmps5
  go_wp2_with fail
  refine cA.out.mono ?_
  rintro e w1 ⟨rfl, hb1⟩
  have HB1 := hide hb1
  clear hb1
  go_wp2_with fail
  refine (cF1.out w1 HB1.out).mono ?_
  rintro e w2 (⟨hc, rfl, hb2⟩ | ⟨hc, g, k, x, rfl, hFU, hAT, hb2⟩)
  · have HB2 := hide (HB1.out.trans (hb2.mono HB1.out.size))
    obtain ⟨E, hE⟩ : ∃ E, checkU n l = E := ⟨_, rfl⟩
    rw [hE] at hc ⊢
    have eE : (E == 0) = false := by simpa using hc
    have HC := hide hc
    have cG0 := fold_any 0 anyB lasts_any none 0 [] w2 AtR.nil (by simp [sumBy]) (by simp [sumBy]) (fun x hx => by cases hx) (HV.out.below HB2.out)
    have cG := hide cG0
    clear hb2 hc hE cG0
    go_wp2_with fail
    refine cG.out.mono ?_
    rintro e w3 (⟨hc3, rfl, hb3⟩ | ⟨hc3, _⟩)
    rotate_left
    · exact absurd hc3 (by unfold checkU; rw [if_pos rfl]; decide)
    have HB3 := hide (HB2.out.trans (hb3.mono HB2.out.size))
    clear hb3 hc3
    go_wp2_with (go_at_call 17; refine (num_ey _ _).mono ?_; rintro e w4 ⟨rfl, rfl⟩)
    go_ret
    exact ⟨rfl, HB3.out⟩
  · have HB2 := hide (HB1.out.trans (hb2.mono HB1.out.size))
    have hxl : x.length = m := hFU.1.trans HML.out
    have hbx := Nat.le_trans hFU.bare HB.out
    have htx : sumBy (textsU n) x ≤ 10000000000000 := by
      have h1 := hFU.texts
      have h2 : BB * sumBy (bareU n) l ≤ 1000000 * 1048576 := Nat.mul_le_mul_left _ HB.out
      have h3 := HT.out
      omega
    have hnx := hFU.num HN.out
    have hcx := hFU.check hc
    have cG0 := fold_any n anyB lasts_any (some ⟨g, 0, none⟩) k x w2 hAT hbx htx hnx (HV.out.below HB2.out)
    rw [hxl] at cG0
    have cG := hide cG0
    have HCX := hide hcx
    have HFU := hide hFU
    have HAT := hide hAT
    have HXL := hide hxl
    have HBX := hide hbx
    have hlm : l.length = m := HML.out
    rw [hlm]
    clear hb2 hc cG0 hcx hFU hAT hxl hbx htx hnx hlm
    go_wp2_with fail
    refine cG.out.mono ?_
    rintro e w3 (⟨hc3, _⟩ | ⟨hc3, g3, k3, y, rfl, hFU3, hAT3, hb3⟩)
    · exact absurd HCX.out hc3
    have hyx := HFU.out.twice hFU3
    subst hyx
    have HB3 := hide (HB2.out.trans (hb3.mono HB2.out.size))
    have cS0 := sameU n anyB lasts_any (some ⟨g, 0, none⟩) (some ⟨g3, 0, none⟩) k k3 y w3 (HAT.out.on (UnitR.steady n) (lasts_any.stays hb3)) hAT3 HBX.out
    rw [HXL.out] at cS0
    have cS := hide cS0
    rw [HXL.out]
    clear hb3 hc3 hFU3 hAT3 cS0
    go_wp2_with (go_at_call 17; refine (num_ey _ _).mono ?_; rintro e w4 ⟨rfl, rfl⟩)
    refine cS.out.mono ?_
    rintro e w5 ⟨rfl, hb5⟩
    have HB5 := hide (HB3.out.trans (hb5.mono HB3.out.size))
    clear hb5
    go_wp2_with fail
    go_ret
    exact ⟨rfl, HB5.out⟩
/-- The walk, with the variable that strings.Index reads (as the frame hands it: LenO w). -/
theorem foldOnce_walk (v : Value) (w : World) (g : ∃ (n : Nat) (a : Option Addr) (c : Nat) (l : List (UnitD n)), v = .slice a l.length c ∧ AtR (UnitR n) 18 anyB w a l ∧ sumBy (massU n) l ≤ 1048576 ∧ ∀ x ∈ l, ∀ y ∈ x.body, numN n y)
    (hT : Lib.Utf8Tabs 1 2 w) (hLn : LenO w) : Calls Tryz.prog 5 #[v] w fun e w' => e = .returned (.bool true) ∧ Below w.heap.size w w' := by
  obtain ⟨n', a, c, l, rfl, hL, hm, hn⟩ := g
  exact foldOnce_any n' a c l w hL hm hn ⟨hT, hLn⟩
end Go.Proofs.YtnepogddjinpoaaGreatDoor
