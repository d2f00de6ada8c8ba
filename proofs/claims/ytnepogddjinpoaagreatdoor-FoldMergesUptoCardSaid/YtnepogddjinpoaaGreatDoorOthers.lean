/-
  The page's others: how many nodes are no texts.
-/
import Derived.Test.YtnepogddjinpoaaGreatDoorTextsN
namespace Go.Proofs.YtnepogddjinpoaaGreatDoor
open Go.RowKit
set_option linter.unusedVariables false
set_option linter.unusedSimpArgs false

theorem othersW_append {α : Type} (f : List α → Nat) (l r : List (NN α)) : othersW f (l ++ r) = othersW f l + othersW f r := by unfold othersW; rw [sumBy_append]
theorem othersW_len {α : Type} (f : List α → Nat) (g : List α → Nat) (M : NN α → Nat) (hf : ∀ l, f l ≤ g l) (hM : ∀ x, 1 + g x.body + g x.els ≤ M x) : ∀ l : List (NN α), othersW f l ≤ sumBy M l := by
  intro l
  unfold othersW
  refine sumBy_le l fun x _ => ?_
  have h1 := hf x.body
  have h2 := hf x.els
  have h3 := hM x
  have h4 : (if x.k = 1 then 0 else 1) ≤ 1 := by split <;> simp
  omega
theorem othersL_len : ∀ (n : Nat) (l : List (NT n)), othersL n l ≤ sumBy (massN n) l := by
  intro n
  induction n with
  | zero => intro l; simp [othersL]
  | succ m ih => exact fun l => othersW_len (othersL m) (sumBy (massN m)) (massN (m + 1)) ih (fun x => by rw [massN_succ]; omega) l
/-- What the page's others gives. -/
def OthersOf (n : Nat) (w : World) (l : List (NT n)) (e : Ending) (w' : World) : Prop := e = .returned (.int .i64 ((othersL n l : Nat) : Int)) ∧ Below w.heap.size w w'
set_option maxHeartbeats 4000000 in
set_option maxRecDepth 100000 in
theorem others_step (m : Nat) (l : List (NN (NT m))) (ih : l ≠ [] → ∀ (U : World → Nat → Prop) (hU : Lasts U) (a : Option Addr) (c : Nat) (l : List (NT m)) (w : World), AtR (NodeR m) 9 U w a l → sumBy (massN m) l ≤ 1048576 → Calls Tryz.prog 15 #[.slice a l.length c] w (OthersOf m w l))
    (U : World → Nat → Prop) (hU : Lasts U) (a : Option Addr) (c : Nat) (w : World) (h : AtR (NodeR (m + 1)) 9 U w a l) (hm : sumBy (massN (m + 1)) l ≤ 1048576) : Calls Tryz.prog 15 #[.slice a l.length c] w (OthersOf (m + 1) w l) := by
  have hlen : l.length ≤ 1048576 := Nat.le_trans (sumBy_len (massN (m + 1)) massN_pos l) hm
  have H := hide h; have HM := hide hm
  clear h hm
  go_enter Tryz.func15, Tryz.ntmps15
  go_wp2_with fail
  go_loopw [3, 4] (fun tv iv wr => ∃ (i : Nat) (t : Nat), iv = .int .i64 (i : Int) ∧ tv = .int .i64 (t : Int) ∧ i ≤ l.length ∧ Hid (t = othersW (othersL m) (l.take i)) ∧ Hid (Below w.heap.size w wr)) (fun _ iv _ => l.length - (intOf iv).toNat)
  case atStart => exact ⟨0, 0, rfl, rfl, Nat.zero_le _, rfl, Below.refl _ _⟩
  case round =>
    obtain ⟨i, t, rfl, rfl, hil, ht, hJ⟩ := hrel
    by_cases hlt : i < l.length
    · obtain ⟨x, hx⟩ : ∃ x, l[i]? = some x := ⟨_, List.getElem?_eq_getElem hlt⟩
      obtain ⟨g, o, vs, rfl, hg, _, _, hcell, hN⟩ := (H.out.on (NodeR.steady (m + 1)) (hU.stays hJ.out)) i x hx
      obtain ⟨a1, c1, a2, c2, a3, c3, rfl, q1, q2, q3⟩ := hN.parts
      have hcl := hide (fun (W : World) (hb : Below wr.heap.size wr W) (t : Nat) (u : Value) (ht : (nodeCells x.k ⟨x.s.toArray⟩ ⟨x.nm.toArray⟩ a1 x.pipe.length c1 a2 x.body.length c2 a3 x.els.length c3 x.pos x.esc x.unit)[t]? = some u) => (cellB (hb.block g hg) _).trans (hcell t u ht))
      have f0 := hcell 0 _ rfl; have f1 := hcell 1 _ rfl; have f4 := hcell 4 _ rfl; have f5 := hcell 5 _ rfl
      simp only [Nat.add_zero] at f0
      have hji : (i : Int) < (l.length : Int) := by omega
      have hxm := sumBy_mem (massN (m + 1)) l x (List.mem_of_getElem? hx)
      rw [massN_succ] at hxm
      have hm2 : sumBy (massN m) x.body ≤ 1048576 ∧ sumBy (massN m) x.els ≤ 1048576 := by have := HM.out; omega
      have hsum : (t : Int) + (othersL m x.body : Nat) + (othersL m x.els : Nat) ≤ 2097152 := by
        have e1 := othersL_len (m + 1) (l.take i)
        have e2 := sumBy_take_drop (massN (m + 1)) l i
        have e3 := HM.out
        have e4 := othersL_len m x.body
        have e5 := othersL_len m x.els
        have e6 : t = othersL (m + 1) (l.take i) := ht.out
        omega
      have hne : l ≠ [] := fun e => by rw [e] at hlt; exact absurd hlt (Nat.not_lt_zero _)
      have hnx := hide (show t + ((if x.k = 1 then 0 else 1) + (othersL m x.body + othersL m x.els)) = othersW (othersL m) (l.take (i + 1)) by
        rw [List.take_add_one, hx, othersW_append, ht.out]; simp [othersW, sumBy])
      have cB := hide (fun (W' : World) (h : Below wr.heap.size wr W') => ih hne (lowB U wr) (lasts_lowN _ _) a2 c2 x.body W' (q2.low (NodeR.steady m) |>.on (NodeR.steady m) (stays_low (Below.refl _ _) h h.size)) hm2.1)
      have cE := hide (fun (W' : World) (h : Below wr.heap.size wr W') => ih hne (lowB U wr) (lasts_lowN _ _) a3 c3 x.els W' (q3.low (NodeR.steady m) |>.on (NodeR.steady m) (stays_low (Below.refl _ _) h h.size)) hm2.2)
      have hi9 : i < 1048576 := by omega
      have HLT := hide hlt
      have HS := hide hsum
      -- generalize hTB : othersL m x.body = tB at cB HS hsum hnx
      -- generalize hTE : othersL m x.els = tE at cE HS hsum hnx
      clear hcell hN q1 q2 q3 hx hxm hm2 hne hil hlen hlt
      by_cases hk : x.k = 1
      · have hkt : (x.k != 1) = false := by simpa using hk
        have HK := hide hk
        clear hk
        go_wp2_with fail
        go_region_with (first
          | (go_at_call_of 15 (Value.slice a2 (NN.body x).length c2); refine (cB.out _ (Chg.bel (by (repeat' (first | with_reducible exact Chg.refl _ _ | with_reducible refine Chg.alloc ?_ _ | with_reducible refine Chg.drew ?_ | with_reducible refine Chg.drewN ?_ _ | with_reducible refine Chg.set_ ?_ _ _ (by first | (simp; done) | (simp; omega) | omega)))))).mono ?_; rintro e wB ⟨rfl, hbB⟩; have HB := hide (below_step (a := wr) (Chg.bel (by (repeat' (first | with_reducible exact Chg.refl _ _ | with_reducible refine Chg.alloc ?_ _ | with_reducible refine Chg.drew ?_ | with_reducible refine Chg.drewN ?_ _ | with_reducible refine Chg.set_ ?_ _ _ (by first | (simp; done) | (simp; omega) | omega))))) hbB); have k5 := hcl.out wB HB.out 5 _ rfl; clear hbB)
          | (go_at_call_of 15 (Value.slice a3 (NN.els x).length c3); refine (cE.out _ HB.out).mono ?_; rintro e wE ⟨rfl, hbE⟩; have HE := hide (below_step HB.out hbE); clear hbE))
        all_goals
          go_wp2_with fail
          have hlt := HLT.out
          have HT2 := hide (hnx.out)
          rw [if_pos HK.out] at HT2
          go_roundw
          case rel => exact ⟨i + 1, t + (0 + (othersL m x.body + othersL m x.els)), by go_num, by go_num, by omega, HT2, hide (hJ.out.trans (HE.out.mono hJ.out.size))⟩
          case measure => simp [intOf]; omega
      · have hkf : (x.k != 1) = true := by simpa using hk
        have HK := hide hk
        clear hk
        go_wp2_with fail
        go_region_with (first
          | (go_at_call_of 15 (Value.slice a2 (NN.body x).length c2); refine (cB.out _ (Chg.bel (by (repeat' (first | with_reducible exact Chg.refl _ _ | with_reducible refine Chg.alloc ?_ _ | with_reducible refine Chg.drew ?_ | with_reducible refine Chg.drewN ?_ _ | with_reducible refine Chg.set_ ?_ _ _ (by first | (simp; done) | (simp; omega) | omega)))))).mono ?_; rintro e wB ⟨rfl, hbB⟩; have HB := hide (below_step (a := wr) (Chg.bel (by (repeat' (first | with_reducible exact Chg.refl _ _ | with_reducible refine Chg.alloc ?_ _ | with_reducible refine Chg.drew ?_ | with_reducible refine Chg.drewN ?_ _ | with_reducible refine Chg.set_ ?_ _ _ (by first | (simp; done) | (simp; omega) | omega))))) hbB); have k5 := hcl.out wB HB.out 5 _ rfl; clear hbB)
          | (go_at_call_of 15 (Value.slice a3 (NN.els x).length c3); refine (cE.out _ HB.out).mono ?_; rintro e wE ⟨rfl, hbE⟩; have HE := hide (below_step HB.out hbE); clear hbE))
        all_goals
          go_wp2_with fail
          have hlt := HLT.out
          have HT2 := hide (hnx.out)
          rw [if_neg HK.out] at HT2
          go_roundw
          case rel => exact ⟨i + 1, t + (1 + (othersL m x.body + othersL m x.els)), by go_num, by go_num, by omega, HT2, hide (hJ.out.trans (HE.out.mono hJ.out.size))⟩
          case measure => simp [intOf]; omega
    · obtain rfl : i = l.length := by omega
      have hif : decide ((l.length : Int) < (l.length : Int)) = false := by simp
      have hte := hide (show t = othersL (m + 1) l by rw [ht.out, List.take_length]; rfl)
      clear hil hlt
      go_wp2_with fail
      go_ret
      exact ⟨by rw [← hte.out]; rfl, hJ.out⟩
theorem others_none (U : World → Nat → Prop) (hU : Lasts U) (a : Option Addr) (c : Nat) (l : List (NT 0)) (w : World) : Calls Tryz.prog 15 #[.slice a l.length c] w (OthersOf 0 w l) := by
  obtain rfl : l = [] := by
    cases l with
    | nil => rfl
    | cons x l => exact x.elim
  exact (others_step 0 [] (fun h => absurd rfl h) U hU a c w AtR.nil (Nat.zero_le _)).mono fun e w' h => h
theorem others_any : ∀ (n : Nat) (U : World → Nat → Prop) (hU : Lasts U) (a : Option Addr) (c : Nat) (l : List (NT n)) (w : World), AtR (NodeR n) 9 U w a l → sumBy (massN n) l ≤ 1048576 → Calls Tryz.prog 15 #[.slice a l.length c] w (OthersOf n w l) := by
  intro n
  induction n with
  | zero => exact fun U hU a c l w _ _ => others_none U hU a c l w
  | succ m ih => exact fun U hU a c l w h hm => others_step m l (fun _ => ih) U hU a c w h hm
end Go.Proofs.YtnepogddjinpoaaGreatDoor
