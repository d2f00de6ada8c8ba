/-
  PLAIN LAWS of many texts, in one.
-/
import Derived.Test.YtnepogddjinpoaaGreatDoorTextsN
import Derived.Test.YtnepogddjinpoaaGreatDoorQB
namespace Go.Proofs.YtnepogddjinpoaaGreatDoor
open Go.RowKit
set_option linter.unusedVariables false
set_option linter.unusedSimpArgs false

theorem properW_snoc {α : Type} (f : List α → Bool) (l : List (NN α)) (x : NN α) : properW f (l ++ [x]) = (properW f l && (!(decide (x.k = 1) && decide (0 < x.body.length + x.els.length)) && (f x.body && f x.els))) := by unfold properW; simp
theorem properW_false {α : Type} {f : List α → Bool} {l : List (NN α)} {i : Nat} {x : NN α} (hx : l[i]? = some x) (h : (!(decide (x.k = 1) && decide (0 < x.body.length + x.els.length)) && (f x.body && f x.els)) = false) : properW f l = false := by
  unfold properW
  rw [List.all_eq_false]
  exact ⟨x, List.mem_of_getElem? hx, by rw [h]; simp⟩
/-- What the page's proper gives. -/
def ProperOf (n : Nat) (w : World) (l : List (NT n)) (e : Ending) (w' : World) : Prop := e = .returned (.bool (properL n l)) ∧ Below w.heap.size w w'
theorem lenOr : ∀ (m : Nat) (l : List (NT m)), l.length ≤ sumBy (massN m) l ∨ l = [] := by
  intro m
  cases m with
  | zero => intro l; right; cases l with | nil => rfl | cons x l => exact x.elim
  | succ m => exact fun l => .inl (sumBy_len (massN (m + 1)) massN_pos l)
set_option maxHeartbeats 4000000 in
set_option maxRecDepth 100000 in
theorem proper_step (m : Nat) (l : List (NN (NT m))) (ih : l ≠ [] → ∀ (U : World → Nat → Prop) (hU : Lasts U) (a : Option Addr) (c : Nat) (l : List (NT m)) (w : World), AtR (NodeR m) 9 U w a l → sumBy (massN m) l ≤ 1048576 → Calls Tryz.prog 10 #[.slice a l.length c] w (ProperOf m w l))
    (U : World → Nat → Prop) (hU : Lasts U) (a : Option Addr) (c : Nat) (w : World) (h : AtR (NodeR (m + 1)) 9 U w a l) (hm : sumBy (massN (m + 1)) l ≤ 1048576) : Calls Tryz.prog 10 #[.slice a l.length c] w (ProperOf (m + 1) w l) := by
  have hlen : l.length ≤ 1048576 := Nat.le_trans (sumBy_len (massN (m + 1)) massN_pos l) hm
  have H := hide h; have HM := hide hm
  clear h hm
  go_enter Tryz.func10, Tryz.ntmps10
  go_wp2_with fail
  go_loopw [3] (fun iv wr => ∃ (i : Nat), iv = .int .i64 (i : Int) ∧ i ≤ l.length ∧ Hid (properW (properL m) (l.take i) = true) ∧ Hid (Below w.heap.size w wr)) (fun iv _ => l.length - (intOf iv).toNat)
  case atStart => exact ⟨0, rfl, Nat.zero_le _, rfl, Below.refl _ _⟩
  case round =>
    obtain ⟨i, rfl, hil, ht, hJ⟩ := hrel
    by_cases hlt : i < l.length
    · obtain ⟨x, hx⟩ : ∃ x, l[i]? = some x := ⟨_, List.getElem?_eq_getElem hlt⟩
      obtain ⟨g, o, vs, rfl, hg, _, _, hcell, hN⟩ := (H.out.on (NodeR.steady (m + 1)) (hU.stays hJ.out)) i x hx
      obtain ⟨a1, c1, a2, c2, a3, c3, rfl, q1, q2, q3⟩ := hN.parts
      have hcl := hide (fun (W : World) (hb : Below wr.heap.size wr W) (t : Nat) (u : Value) (ht : (nodeCells x.k ⟨x.s.toArray⟩ ⟨x.nm.toArray⟩ a1 x.pipe.length c1 a2 x.body.length c2 a3 x.els.length c3 x.pos x.esc x.unit)[t]? = some u) => (cellB (hb.block g hg) _).trans (hcell t u ht))
      have f0 := hcell 0 _ rfl; have f1 := hcell 1 _ rfl; have f4 := hcell 4 _ rfl; have f5 := hcell 5 _ rfl
      simp only [Nat.add_zero] at f0
      have hji : (i : Int) < (l.length : Int) := by omega
      have hxm := sumBy_mem (massN (m + 1)) l x (List.mem_of_getElem? hx)
      rw [massN_succ] at hxm
      have hm2 : sumBy (massN m) x.body ≤ 1048576 ∧ sumBy (massN m) x.els ≤ 1048576 := by have := HM.out; omega
      have hbl : x.body.length ≤ 1048576 ∧ x.els.length ≤ 1048576 := by
        have e1 : x.body.length ≤ sumBy (massN m) x.body ∨ x.body = [] := lenOr m x.body
        have e2 : x.els.length ≤ sumBy (massN m) x.els ∨ x.els = [] := lenOr m x.els
        constructor
        · rcases e1 with e1 | e1; omega; rw [e1]; simp
        · rcases e2 with e2 | e2; omega; rw [e2]; simp
      obtain ⟨hbl1, hbl2⟩ := hbl
      have hne : l ≠ [] := fun e => by rw [e] at hlt; exact absurd hlt (Nat.not_lt_zero _)
      have HX := hide hx
      have hnx := hide (fun (h : (!(decide (x.k = 1) && decide (0 < x.body.length + x.els.length)) && (properL m x.body && properL m x.els)) = true) => show properW (properL m) (l.take (i + 1)) = true by
        rw [List.take_add_one, hx]
        exact (properW_snoc (properL m) (l.take i) x).trans (by rw [ht.out, h]; rfl))
      have cB : Hid (∀ (W' : World), Below wr.heap.size wr W' → Calls Tryz.prog 10 #[.slice a2 x.body.length c2] W' fun e w' => e = .returned (.bool (properL m x.body)) ∧ Below W'.heap.size W' w') := hide (fun (W' : World) (h : Below wr.heap.size wr W') => ih hne (lowB U wr) (lasts_lowN _ _) a2 c2 x.body W' (q2.low (NodeR.steady m) |>.on (NodeR.steady m) (stays_low (Below.refl _ _) h h.size)) hm2.1)
      have cE : Hid (∀ (W' : World), Below wr.heap.size wr W' → Calls Tryz.prog 10 #[.slice a3 x.els.length c3] W' fun e w' => e = .returned (.bool (properL m x.els)) ∧ Below W'.heap.size W' w') := hide (fun (W' : World) (h : Below wr.heap.size wr W') => ih hne (lowB U wr) (lasts_lowN _ _) a3 c3 x.els W' (q3.low (NodeR.steady m) |>.on (NodeR.steady m) (stays_low (Below.refl _ _) h h.size)) hm2.2)
      have hi9 : i < 1048576 := by omega
      have HLT := hide hlt
      clear hcell hN q1 q2 q3 hx hxm hm2 hne hil hlen hlt
      have hwr : IntKind.i64.wrap ((x.body.length : Int) + (x.els.length : Int)) = (x.body.length : Int) + (x.els.length : Int) := by rw [IntKind.wrap_i64]; omega
      by_cases hA : x.k = 1 ∧ 0 < x.body.length + x.els.length
      · have hkt : (x.k == 1) = true := by simpa using hA.1
        have hgt : decide ((0 : Int) < (x.body.length : Int) + (x.els.length : Int)) = true := by have := hA.2; rw [decide_eq_true_eq]; omega
        have HA := hide hA
        clear hA
        go_wp2_with fail
        refine wp_region_below (W := wr) (by kernel_rfl) (by kernel_rfl) (Below.refl _ _) ?_
        repeat (first
          | go_big_quiet_skip
          | (apply wpQuiet_one (by rfl)
             · intro w' hw'
               have y0 := hcl.out w' hw' 0 _ rfl; have y4 := hcl.out w' hw' 4 _ rfl; have y5 := hcl.out w' hw' 5 _ rfl
               simp only [Nat.add_zero] at y0
               go_simp
               first
                 | done
                 | (go_at_call_of 10 (Value.slice a2 (NN.body x).length c2); exact Calls.below_of hw' (cB.out w' hw'))
                 | (go_at_call_of 10 (Value.slice a3 (NN.els x).length c3); exact Calls.below_of hw' (cE.out w' hw'))
                 | (rw [hgt]; rfl)
                 | rfl
             · go_simp
               rfl))
        refine wpQuiet_nil ?_
        intro w' hw'
        go_wp2_with fail
        go_ret
        exact ⟨by rw [(show properL (m + 1) l = false from properW_false HX.out (by simp [HA.out.1, HA.out.2]))]; rfl, hJ.out.trans (hw'.mono hJ.out.size)⟩
      · have HA := hide (show (!(decide (x.k = 1) && decide (0 < x.body.length + x.els.length))) = true by
          cases hq : (decide (x.k = 1) && decide (0 < x.body.length + x.els.length)) with
          | false => rfl
          | true => simp only [Bool.and_eq_true, decide_eq_true_eq] at hq; exact absurd hq hA)
        by_cases hk : x.k = 1
        · have hkt : (x.k == 1) = true := by simpa using hk
          have hgt : decide ((0 : Int) < (x.body.length : Int) + (x.els.length : Int)) = false := by rw [decide_eq_false_iff_not]; intro h; exact hA ⟨hk, by omega⟩
          clear hk hA
          cases hpB : properL m x.body with
          | false =>
            rw [hpB] at cB
            have HPB := hide hpB
            go_wp2_with fail
            refine wp_region_below (W := wr) (by kernel_rfl) (by kernel_rfl) (Below.refl _ _) ?_
            repeat (first
              | go_big_quiet_skip
              | (apply wpQuiet_one (by rfl)
                 · intro w' hw'
                   have y0 := hcl.out w' hw' 0 _ rfl; have y4 := hcl.out w' hw' 4 _ rfl; have y5 := hcl.out w' hw' 5 _ rfl
                   simp only [Nat.add_zero] at y0
                   go_simp
                   first
                     | done
                     | (go_at_call_of 10 (Value.slice a2 (NN.body x).length c2); exact Calls.below_of hw' (cB.out w' hw'))
                     | (go_at_call_of 10 (Value.slice a3 (NN.els x).length c3); exact Calls.below_of hw' (cE.out w' hw'))
                     | (rw [hgt]; rfl)
                     | rfl
                 · go_simp
                   rfl))
            refine wpQuiet_nil ?_
            intro w' hw'
            go_wp2_with fail
            go_ret
            exact ⟨by rw [(show properL (m + 1) l = false from properW_false HX.out (by rw [HPB.out]; simp))]; rfl, hJ.out.trans (hw'.mono hJ.out.size)⟩
          | true =>
            cases hpE : properL m x.els with
            | false =>
              have HPE := hide hpE; rw [hpE] at cE
              go_wp2_with fail
              refine wp_region_below (W := wr) (by kernel_rfl) (by kernel_rfl) (Below.refl _ _) ?_
              repeat (first
                | go_big_quiet_skip
                | (apply wpQuiet_one (by rfl)
                   · intro w' hw'
                     have y0 := hcl.out w' hw' 0 _ rfl; have y4 := hcl.out w' hw' 4 _ rfl; have y5 := hcl.out w' hw' 5 _ rfl
                     simp only [Nat.add_zero] at y0
                     go_simp
                     first
                       | done
                       | (go_at_call_of 10 (Value.slice a2 (NN.body x).length c2); exact Calls.below_of hw' (cB.out w' hw'))
                       | (go_at_call_of 10 (Value.slice a3 (NN.els x).length c3); exact Calls.below_of hw' (cE.out w' hw'))
                       | (rw [hgt]; rfl)
                       | rfl
                   · go_simp
                     rfl))
              refine wpQuiet_nil ?_
              intro w' hw'
              go_wp2_with fail
              go_ret
              exact ⟨by rw [(show properL (m + 1) l = false from properW_false HX.out (by rw [HPE.out]; simp))]; rfl, hJ.out.trans (hw'.mono hJ.out.size)⟩
            | true =>
              have HPB := hide hpB; have HPE := hide hpE; rw [hpE] at cE
              go_wp2_with fail
              refine wp_region_below (W := wr) (by kernel_rfl) (by kernel_rfl) (Below.refl _ _) ?_
              repeat (first
                | go_big_quiet_skip
                | (apply wpQuiet_one (by rfl)
                   · intro w' hw'
                     have y0 := hcl.out w' hw' 0 _ rfl; have y4 := hcl.out w' hw' 4 _ rfl; have y5 := hcl.out w' hw' 5 _ rfl
                     simp only [Nat.add_zero] at y0
                     go_simp
                     first
                       | done
                       | (go_at_call_of 10 (Value.slice a2 (NN.body x).length c2); exact Calls.below_of hw' (cB.out w' hw'))
                       | (go_at_call_of 10 (Value.slice a3 (NN.els x).length c3); exact Calls.below_of hw' (cE.out w' hw'))
                       | (rw [hgt]; rfl)
                       | rfl
                   · go_simp
                     rfl))
              refine wpQuiet_nil ?_
              intro w' hw'
              go_wp2_with fail
              have hlt := HLT.out
              go_roundw
              case rel => exact ⟨i + 1, by go_num, by omega, hide (hnx.out (by rw [HA.out, HPB.out, HPE.out]; rfl)), hide (hJ.out.trans (hw'.mono hJ.out.size))⟩
              case measure => simp [intOf]; omega
        · have hkt : (x.k == 1) = false := by simpa using hk
          clear hk hA
          cases hpB : properL m x.body with
          | false =>
            rw [hpB] at cB
            have HPB := hide hpB
            go_wp2_with fail
            refine wp_region_below (W := wr) (by kernel_rfl) (by kernel_rfl) (Below.refl _ _) ?_
            repeat (first
              | go_big_quiet_skip
              | (apply wpQuiet_one (by rfl)
                 · intro w' hw'
                   have y0 := hcl.out w' hw' 0 _ rfl; have y4 := hcl.out w' hw' 4 _ rfl; have y5 := hcl.out w' hw' 5 _ rfl
                   simp only [Nat.add_zero] at y0
                   go_simp
                   first
                     | done
                     | (go_at_call_of 10 (Value.slice a2 (NN.body x).length c2); exact Calls.below_of hw' (cB.out w' hw'))
                     | (go_at_call_of 10 (Value.slice a3 (NN.els x).length c3); exact Calls.below_of hw' (cE.out w' hw'))
                     | rfl
                 · go_simp
                   rfl))
            refine wpQuiet_nil ?_
            intro w' hw'
            go_wp2_with fail
            go_ret
            exact ⟨by rw [(show properL (m + 1) l = false from properW_false HX.out (by rw [HPB.out]; simp))]; rfl, hJ.out.trans (hw'.mono hJ.out.size)⟩
          | true =>
            cases hpE : properL m x.els with
            | false =>
              have HPE := hide hpE; rw [hpE] at cE
              go_wp2_with fail
              refine wp_region_below (W := wr) (by kernel_rfl) (by kernel_rfl) (Below.refl _ _) ?_
              repeat (first
                | go_big_quiet_skip
                | (apply wpQuiet_one (by rfl)
                   · intro w' hw'
                     have y0 := hcl.out w' hw' 0 _ rfl; have y4 := hcl.out w' hw' 4 _ rfl; have y5 := hcl.out w' hw' 5 _ rfl
                     simp only [Nat.add_zero] at y0
                     go_simp
                     first
                       | done
                       | (go_at_call_of 10 (Value.slice a2 (NN.body x).length c2); exact Calls.below_of hw' (cB.out w' hw'))
                       | (go_at_call_of 10 (Value.slice a3 (NN.els x).length c3); exact Calls.below_of hw' (cE.out w' hw'))
                       | rfl
                   · go_simp
                     rfl))
              refine wpQuiet_nil ?_
              intro w' hw'
              go_wp2_with fail
              go_ret
              exact ⟨by rw [(show properL (m + 1) l = false from properW_false HX.out (by rw [HPE.out]; simp))]; rfl, hJ.out.trans (hw'.mono hJ.out.size)⟩
            | true =>
              have HPB := hide hpB; have HPE := hide hpE; rw [hpE] at cE
              go_wp2_with fail
              refine wp_region_below (W := wr) (by kernel_rfl) (by kernel_rfl) (Below.refl _ _) ?_
              repeat (first
                | go_big_quiet_skip
                | (apply wpQuiet_one (by rfl)
                   · intro w' hw'
                     have y0 := hcl.out w' hw' 0 _ rfl; have y4 := hcl.out w' hw' 4 _ rfl; have y5 := hcl.out w' hw' 5 _ rfl
                     simp only [Nat.add_zero] at y0
                     go_simp
                     first
                       | done
                       | (go_at_call_of 10 (Value.slice a2 (NN.body x).length c2); exact Calls.below_of hw' (cB.out w' hw'))
                       | (go_at_call_of 10 (Value.slice a3 (NN.els x).length c3); exact Calls.below_of hw' (cE.out w' hw'))
                       | rfl
                   · go_simp
                     rfl))
              refine wpQuiet_nil ?_
              intro w' hw'
              go_wp2_with fail
              have hlt := HLT.out
              go_roundw
              case rel => exact ⟨i + 1, by go_num, by omega, hide (hnx.out (by rw [HA.out, HPB.out, HPE.out]; rfl)), hide (hJ.out.trans (hw'.mono hJ.out.size))⟩
              case measure => simp [intOf]; omega
    · obtain rfl : i = l.length := by omega
      have hif : decide ((l.length : Int) < (l.length : Int)) = false := by simp
      have hte := hide (show properL (m + 1) l = true from (by have := ht.out; rw [List.take_length] at this; exact this))
      clear hil hlt
      go_wp2_with fail
      go_ret
      exact ⟨by rw [hte.out]; rfl, hJ.out⟩
theorem proper_none (U : World → Nat → Prop) (hU : Lasts U) (a : Option Addr) (c : Nat) (l : List (NT 0)) (w : World) : Calls Tryz.prog 10 #[.slice a l.length c] w (ProperOf 0 w l) := by
  obtain rfl : l = [] := by
    cases l with
    | nil => rfl
    | cons x l => exact x.elim
  exact (proper_step 0 [] (fun h => absurd rfl h) U hU a c w AtR.nil (Nat.zero_le _)).mono fun e w' h => h
theorem proper_any : ∀ (n : Nat) (U : World → Nat → Prop) (hU : Lasts U) (a : Option Addr) (c : Nat) (l : List (NT n)) (w : World), AtR (NodeR n) 9 U w a l → sumBy (massN n) l ≤ 1048576 → Calls Tryz.prog 10 #[.slice a l.length c] w (ProperOf n w l) := by
  intro n
  induction n with
  | zero => exact fun U hU a c l w _ _ => proper_none U hU a c l w
  | succ m ih => exact fun U hU a c l w h hm => proper_step m l (fun _ => ih) U hU a c w h hm
end Go.Proofs.YtnepogddjinpoaaGreatDoor

namespace Go.Proofs.YtnepogddjinpoaaGreatDoor
open Go.RowKit
set_option linter.unusedVariables false
set_option linter.unusedSimpArgs false

theorem noAdj_at {α : Type} : ∀ (l : List (NN α)) (i : Nat) (y x : NN α), noAdj l = true → l[i]? = some y → l[i + 1]? = some x → ¬ (x.k = 1 ∧ y.k = 1) := by
  intro l
  induction l with
  | nil => intro i y x _ h; simp at h
  | cons a l ih =>
    intro i y x h h1 h2
    cases l with
    | nil => simp at h2
    | cons b l =>
      simp only [noAdj, Bool.and_eq_true] at h
      cases i with
      | zero =>
        simp at h1 h2
        subst h1; subst h2
        have h3 := h.1
        intro hc
        simp [hc.1, hc.2] at h3
      | succ i => exact ih i y x h.2 (by simpa using h1) (by simpa using h2)
theorem apartW_at {α : Type} {f : List α → Bool} {l : List (NN α)} (h : apartW f l = true) {i : Nat} {x : NN α} (hx : l[i]? = some x) : f x.body = true ∧ f x.els = true := by
  unfold apartW at h
  simp only [Bool.and_eq_true, List.all_eq_true] at h
  exact h.2 x (List.mem_of_getElem? hx)
/-- What the page's apart gives of nodes that are apart. -/
def ApartOf (w : World) (e : Ending) (w' : World) : Prop := e = .returned (.bool true) ∧ Below w.heap.size w w'
set_option maxHeartbeats 4000000 in
set_option maxRecDepth 100000 in
theorem apart_step (m : Nat) (l : List (NN (NT m))) (ih : l ≠ [] → ∀ (U : World → Nat → Prop) (hU : Lasts U) (a : Option Addr) (c : Nat) (l : List (NT m)) (w : World), AtR (NodeR m) 9 U w a l → sumBy (massN m) l ≤ 1048576 → apartL m l = true → Calls Tryz.prog 13 #[.slice a l.length c] w (ApartOf w))
    (U : World → Nat → Prop) (hU : Lasts U) (a : Option Addr) (c : Nat) (w : World) (h : AtR (NodeR (m + 1)) 9 U w a l) (hm : sumBy (massN (m + 1)) l ≤ 1048576) (hap : apartW (apartL m) l = true) : Calls Tryz.prog 13 #[.slice a l.length c] w (ApartOf w) := by
  have hlen : l.length ≤ 1048576 := Nat.le_trans (sumBy_len (massN (m + 1)) massN_pos l) hm
  have H := hide h; have HM := hide hm; have HAP := hide hap
  clear h hm hap
  go_enter Tryz.func13, Tryz.ntmps13
  go_wp2_with fail
  go_loopw [3] (fun iv wr => ∃ (i : Nat), iv = .int .i64 (i : Int) ∧ i ≤ l.length ∧ Hid (Below w.heap.size w wr)) (fun iv _ => l.length - (intOf iv).toNat)
  case atStart => exact ⟨0, rfl, Nat.zero_le _, Below.refl _ _⟩
  case round =>
    obtain ⟨i, rfl, hil, hJ⟩ := hrel
    by_cases hlt : i < l.length
    · obtain ⟨x, hx⟩ : ∃ x, l[i]? = some x := ⟨_, List.getElem?_eq_getElem hlt⟩
      obtain ⟨g, o, vs, rfl, hg, _, _, hcell, hN⟩ := (H.out.on (NodeR.steady (m + 1)) (hU.stays hJ.out)) i x hx
      obtain ⟨a1, c1, a2, c2, a3, c3, rfl, q1, q2, q3⟩ := hN.parts
      have hcl := hide (fun (W : World) (hb : Below wr.heap.size wr W) (t : Nat) (u : Value) (ht : (nodeCells x.k ⟨x.s.toArray⟩ ⟨x.nm.toArray⟩ a1 x.pipe.length c1 a2 x.body.length c2 a3 x.els.length c3 x.pos x.esc x.unit)[t]? = some u) => (cellB (hb.block g hg) _).trans (hcell t u ht))
      have f0 := hcell 0 _ rfl; have f4 := hcell 4 _ rfl; have f5 := hcell 5 _ rfl
      simp only [Nat.add_zero] at f0
      have hji : (i : Int) < (l.length : Int) := by omega
      have hxm := sumBy_mem (massN (m + 1)) l x (List.mem_of_getElem? hx)
      rw [massN_succ] at hxm
      have hm2 : sumBy (massN m) x.body ≤ 1048576 ∧ sumBy (massN m) x.els ≤ 1048576 := by have := HM.out; omega
      have hne : l ≠ [] := fun e => by rw [e] at hlt; exact absurd hlt (Nat.not_lt_zero _)
      have hap2 := apartW_at HAP.out hx
      have HX := hide hx
      have cB : Hid (∀ (W' : World), Below wr.heap.size wr W' → Calls Tryz.prog 13 #[.slice a2 x.body.length c2] W' fun e w' => e = .returned (.bool true) ∧ Below W'.heap.size W' w') := hide (fun (W' : World) (h : Below wr.heap.size wr W') => ih hne (lowB U wr) (lasts_lowN _ _) a2 c2 x.body W' (q2.low (NodeR.steady m) |>.on (NodeR.steady m) (stays_low (Below.refl _ _) h h.size)) hm2.1 hap2.1)
      have cE : Hid (∀ (W' : World), Below wr.heap.size wr W' → Calls Tryz.prog 13 #[.slice a3 x.els.length c3] W' fun e w' => e = .returned (.bool true) ∧ Below W'.heap.size W' w') := hide (fun (W' : World) (h : Below wr.heap.size wr W') => ih hne (lowB U wr) (lasts_lowN _ _) a3 c3 x.els W' (q3.low (NodeR.steady m) |>.on (NodeR.steady m) (stays_low (Below.refl _ _) h h.size)) hm2.2 hap2.2)
      have hi9 : i < 1048576 := by omega
      have HLT := hide hlt
      rcases Nat.eq_zero_or_pos i with h0 | h0
      · subst h0
        clear hcell hN q1 q2 q3 hx hxm hm2 hne hil hlen hlt hap2
        have hz0 : decide ((0 : Int) < ((0 : Nat) : Int)) = false := rfl
        go_wp2_with (first
          | (go_at_call_of 13 (Value.slice a2 (NN.body x).length c2); refine (cB.out _ (Below.refl _ _)).mono ?_; rintro e w1 ⟨rfl, hb1⟩; have y5 := hcl.out w1 hb1 5 _ rfl; have HB1 := hide hb1; clear hb1)
          | (go_at_call_of 13 (Value.slice a3 (NN.els x).length c3); refine (cE.out _ HB1.out).mono ?_; rintro e w2 ⟨rfl, hb2⟩; have HB2 := hide (below_step HB1.out hb2); clear hb2))
        have hlt := HLT.out
        go_roundw
        case rel => exact ⟨1, by go_num, by omega, hide (hJ.out.trans (HB2.out.mono hJ.out.size))⟩
        case measure => simp [intOf]; omega
      · obtain ⟨j, hj⟩ : ∃ j, i = j + 1 := ⟨i - 1, by omega⟩
        obtain ⟨y, hy⟩ : ∃ y, l[j]? = some y := ⟨_, List.getElem?_eq_getElem (by omega)⟩
        obtain ⟨g2, o2, ws, he2, hg2, _, _, hcell2, hN2⟩ := (H.out.on (NodeR.steady (m + 1)) (hU.stays hJ.out)) j y hy
        injection he2 with he2
        injection he2 with he2 he3 _
        subst he2; subst he3
        obtain ⟨b1, d1, b2, d2, b3, d3, rfl, _, _, _⟩ := hN2.parts
        have p0 := hcell2 0 _ rfl
        simp only [Nat.add_zero] at p0
        have p0w := hide (fun (W : World) (hb : Below wr.heap.size wr W) => (cellB (hb.block g hg) _).trans p0)
        have hnot : ¬ (x.k = 1 ∧ y.k = 1) := by
          refine noAdj_at l j y x ?_ hy (by rw [← hj]; exact hx)
          have := HAP.out
          unfold apartW at this
          simp only [Bool.and_eq_true] at this
          exact this.1
        have e1 : ((i : Int) - 1) = (j : Int) := by omega
        have e0 : decide ((0 : Int) < (i : Int)) = true := by simp; omega
        have hjl : (j : Int) < (l.length : Int) := by omega
        have hwr : IntKind.i64.wrap (j : Int) = (j : Int) := by rw [IntWalk.i64_left, IntWalk.wrap64_in _ (by omega)]
        have HJ := hide hj
        clear hcell hN q1 q2 q3 hx hxm hm2 hne hil hlen hlt hap2 hcell2 hN2 hy hg2 h0 hj
        by_cases hk : x.k = 1
        · have hkt : (x.k == 1) = true := by simpa using hk
          have hyt : (y.k == 1) = false := by
            rw [beq_eq_false_iff_ne]; exact fun h => hnot ⟨hk, h⟩
          clear hk hnot
          go_wp2_with (first
            | (go_at_call_of 13 (Value.slice a2 (NN.body x).length c2); refine (cB.out _ (Below.refl _ _)).mono ?_; rintro e w1 ⟨rfl, hb1⟩; have y5 := hcl.out w1 hb1 5 _ rfl; have HB1 := hide hb1; clear hb1)
            | (go_at_call_of 13 (Value.slice a3 (NN.els x).length c3); refine (cE.out _ HB1.out).mono ?_; rintro e w2 ⟨rfl, hb2⟩; have HB2 := hide (below_step HB1.out hb2); clear hb2))
          have hlt := HLT.out
          go_roundw
          case rel => exact ⟨i + 1, by go_num, by omega, hide (hJ.out.trans (HB2.out.mono hJ.out.size))⟩
          case measure => simp [intOf]; omega
        · have hkt : (x.k == 1) = false := by simpa using hk
          clear hk hnot
          go_wp2_with (first
            | (go_at_call_of 13 (Value.slice a2 (NN.body x).length c2); refine (cB.out _ (Below.refl _ _)).mono ?_; rintro e w1 ⟨rfl, hb1⟩; have y5 := hcl.out w1 hb1 5 _ rfl; have HB1 := hide hb1; clear hb1)
            | (go_at_call_of 13 (Value.slice a3 (NN.els x).length c3); refine (cE.out _ HB1.out).mono ?_; rintro e w2 ⟨rfl, hb2⟩; have HB2 := hide (below_step HB1.out hb2); clear hb2))
          have hlt := HLT.out
          go_roundw
          case rel => exact ⟨i + 1, by go_num, by omega, hide (hJ.out.trans (HB2.out.mono hJ.out.size))⟩
          case measure => simp [intOf]; omega
    · obtain rfl : i = l.length := by omega
      have hif : decide ((l.length : Int) < (l.length : Int)) = false := by simp
      clear hil hlt
      go_wp2_with fail
      go_ret
      exact ⟨rfl, hJ.out⟩
theorem apart_none (U : World → Nat → Prop) (hU : Lasts U) (a : Option Addr) (c : Nat) (l : List (NT 0)) (w : World) : Calls Tryz.prog 13 #[.slice a l.length c] w (ApartOf w) := by
  obtain rfl : l = [] := by
    cases l with
    | nil => rfl
    | cons x l => exact x.elim
  exact (apart_step 0 [] (fun h => absurd rfl h) U hU a c w AtR.nil (Nat.zero_le _) rfl).mono fun e w' h => h
theorem apart_any : ∀ (n : Nat) (U : World → Nat → Prop) (hU : Lasts U) (a : Option Addr) (c : Nat) (l : List (NT n)) (w : World), AtR (NodeR n) 9 U w a l → sumBy (massN n) l ≤ 1048576 → apartL n l = true → Calls Tryz.prog 13 #[.slice a l.length c] w (ApartOf w) := by
  intro n
  induction n with
  | zero => exact fun U hU a c l w _ _ _ => apart_none U hU a c l w
  | succ m ih => exact fun U hU a c l w h hm hap => apart_step m l (fun _ => ih) U hU a c w h hm hap
end Go.Proofs.YtnepogddjinpoaaGreatDoor
