/-
  The page's texts (of nodes): all texts, one behind the other.
-/
import Derived.Test.YtnepogddjinpoaaGreatDoorBeside
namespace Go.Proofs.YtnepogddjinpoaaGreatDoor
open Go.RowKit
set_option linter.unusedVariables false
set_option linter.unusedSimpArgs false

theorem lasts_lowN (U : World → Nat → Prop) (wo : World) : Lasts (lowB U wo) := fun _ _ _ _ _ h => h
theorem textsW_append {α : Type} (f : List α → List UInt8) (l r : List (NN α)) : textsW f (l ++ r) = textsW f l ++ textsW f r := by unfold textsW; rw [List.flatMap_append]
theorem textsW_len {α : Type} (f : List α → List UInt8) (g : List α → Nat) (M : NN α → Nat) (hf : ∀ l, (f l).length ≤ g l) (hM : ∀ x, x.s.length + g x.body + g x.els ≤ M x) : ∀ l : List (NN α), (textsW f l).length ≤ sumBy M l := by
  intro l
  induction l with
  | nil => simp [textsW]
  | cons x l ihl =>
    have e : textsW f (x :: l) = ((if x.k = 1 then x.s else []) ++ (f x.body ++ f x.els)) ++ textsW f l := by unfold textsW; rw [List.flatMap_cons]
    have h1 := hf x.body
    have h2 := hf x.els
    have h3 := hM x
    have h4 : (if x.k = 1 then x.s else []).length ≤ x.s.length := by split <;> simp
    rw [e]
    simp only [List.length_append, sumBy]
    omega
theorem textsL_len : ∀ (n : Nat) (l : List (NT n)), (textsL n l).length ≤ sumBy (massN n) l := by
  intro n
  induction n with
  | zero => intro l; simp [textsL]
  | succ m ih => exact fun l => textsW_len (textsL m) (sumBy (massN m)) (massN (m + 1)) ih (fun x => by rw [massN_succ]; omega) l
/-- What the page's texts gives. -/
def TextsOf (n : Nat) (w : World) (l : List (NT n)) (e : Ending) (w' : World) : Prop := e = .returned (.string ⟨(textsL n l).toArray⟩) ∧ Below w.heap.size w w'
set_option maxHeartbeats 4000000 in
set_option maxRecDepth 100000 in
theorem texts_step (m : Nat) (l : List (NN (NT m))) (ih : l ≠ [] → ∀ (U : World → Nat → Prop) (hU : Lasts U) (a : Option Addr) (c : Nat) (l : List (NT m)) (w : World), AtR (NodeR m) 9 U w a l → sumBy (massN m) l ≤ 1048576 → Calls Tryz.prog 12 #[.slice a l.length c] w (TextsOf m w l))
    (U : World → Nat → Prop) (hU : Lasts U) (a : Option Addr) (c : Nat) (w : World) (h : AtR (NodeR (m + 1)) 9 U w a l) (hm : sumBy (massN (m + 1)) l ≤ 1048576) : Calls Tryz.prog 12 #[.slice a l.length c] w (TextsOf (m + 1) w l) := by
  have hlen : l.length ≤ 1048576 := Nat.le_trans (sumBy_len (massN (m + 1)) massN_pos l) hm
  have H := hide h; have HM := hide hm
  clear h hm
  go_enter Tryz.func12, Tryz.ntmps12
  go_wp2_with fail
  go_loopw [3, 4] (fun tv iv wr => ∃ (i : Nat) (t : List UInt8), iv = .int .i64 (i : Int) ∧ tv = .string ⟨t.toArray⟩ ∧ i ≤ l.length ∧ Hid (t = textsW (textsL m) (l.take i)) ∧ Hid (Below w.heap.size w wr)) (fun _ iv _ => l.length - (intOf iv).toNat)
  case atStart => exact ⟨0, [], rfl, rfl, Nat.zero_le _, rfl, Below.refl _ _⟩
  case round =>
    obtain ⟨i, t, rfl, rfl, hil, ht, hJ⟩ := hrel
    by_cases hlt : i < l.length
    · obtain ⟨x, hx⟩ : ∃ x, l[i]? = some x := ⟨_, List.getElem?_eq_getElem hlt⟩
      obtain ⟨g, o, vs, rfl, hg, _, _, hcell, hN⟩ := (H.out.on (NodeR.steady (m + 1)) (hU.stays hJ.out)) i x hx
      obtain ⟨a1, c1, a2, c2, a3, c3, rfl, q1, q2, q3⟩ := hN.parts
      have hcl := hide (fun (W : World) (hb : Below wr.heap.size wr W) (t : Nat) (u : Value) (ht : (nodeCells x.k ⟨x.s.toArray⟩ ⟨x.nm.toArray⟩ a1 x.pipe.length c1 a2 x.body.length c2 a3 x.els.length c3 x.pos x.esc x.unit)[t]? = some u) => (cellB (hb.block g hg) _).trans (hcell t u ht))
      have f0 := hcell 0 _ rfl; have f1 := hcell 1 _ rfl; have f4 := hcell 4 _ rfl; have f5 := hcell 5 _ rfl
      simp only [Nat.add_zero] at f0
      have hji : (i : Int) < (l.length : Int) := by omega
      have hxm := sumBy_mem (massN (m + 1)) l x (List.mem_of_getElem? hx)
      rw [massN_succ] at hxm
      have hm2 : sumBy (massN m) x.body ≤ 1048576 ∧ sumBy (massN m) x.els ≤ 1048576 := by have := HM.out; omega
      have hsum : Hid (t.length + x.s.length + (textsL m x.body).length + (textsL m x.els).length ≤ 2097152) := by
        have e1 := textsL_len (m + 1) (l.take i)
        have e2 := sumBy_take_drop (massN (m + 1)) l i
        have e3 := HM.out
        have e4 := textsL_len m x.body
        have e5 := textsL_len m x.els
        have e6 : t.length = (textsL (m + 1) (l.take i)).length := congrArg List.length ht.out
        show _ ≤ _
        omega
      have hne : l ≠ [] := fun e => by rw [e] at hlt; exact absurd hlt (Nat.not_lt_zero _)
      have hnx := hide (show t ++ ((if x.k = 1 then x.s else []) ++ (textsL m x.body ++ textsL m x.els)) = textsW (textsL m) (l.take (i + 1)) by
        rw [List.take_add_one, hx, textsW_append, ht.out]; simp [textsW])
      have cB := hide (fun (W' : World) (h : Below wr.heap.size wr W') => ih hne (lowB U wr) (lasts_lowN _ _) a2 c2 x.body W' (q2.low (NodeR.steady m) |>.on (NodeR.steady m) (stays_low (Below.refl _ _) h h.size)) hm2.1)
      have cE := hide (fun (W' : World) (h : Below wr.heap.size wr W') => ih hne (lowB U wr) (lasts_lowN _ _) a3 c3 x.els W' (q3.low (NodeR.steady m) |>.on (NodeR.steady m) (stays_low (Below.refl _ _) h h.size)) hm2.2)
      have hi9 : i < 1048576 := by omega
      have HLT := hide hlt
      have hc1 : ¬ (9223372036854775807 < t.length + x.s.length) := by have := hsum.out; omega
      have hc2 : ¬ (9223372036854775807 < t.length + x.s.length + (textsL m x.body).length) := by have := hsum.out; omega
      have hc3 : ¬ (9223372036854775807 < t.length + x.s.length + (textsL m x.body).length + (textsL m x.els).length) := by have := hsum.out; omega
      have hc4 : ¬ (9223372036854775807 < t.length + (textsL m x.body).length) := by have := hsum.out; omega
      have hc5 : ¬ (9223372036854775807 < t.length + (textsL m x.body).length + (textsL m x.els).length) := by have := hsum.out; omega
      clear hcell hN q1 q2 q3 hx hxm hm2 hne hil hlen hlt
      by_cases hk : x.k = 1
      · have hkt : (x.k == 1) = true := by simpa using hk
        have HK := hide hk
        clear hk
        go_wp2_with fail
        go_region_with (first
          | (go_at_call_of 12 (Value.slice a2 (NN.body x).length c2); refine (cB.out _ (Chg.bel (by (repeat' (first | with_reducible exact Chg.refl _ _ | with_reducible refine Chg.alloc ?_ _ | with_reducible refine Chg.drew ?_ | with_reducible refine Chg.drewN ?_ _ | with_reducible refine Chg.set_ ?_ _ _ (by first | (simp; done) | (simp; omega) | omega)))))).mono ?_; rintro e wB ⟨rfl, hbB⟩; have HB := hide (below_step (a := wr) (Chg.bel (by (repeat' (first | with_reducible exact Chg.refl _ _ | with_reducible refine Chg.alloc ?_ _ | with_reducible refine Chg.drew ?_ | with_reducible refine Chg.drewN ?_ _ | with_reducible refine Chg.set_ ?_ _ _ (by first | (simp; done) | (simp; omega) | omega))))) hbB); have k5 := hcl.out wB HB.out 5 _ rfl; clear hbB)
          | (go_at_call_of 12 (Value.slice a3 (NN.els x).length c3); refine (cE.out _ HB.out).mono ?_; rintro e wE ⟨rfl, hbE⟩; have HE := hide (below_step HB.out hbE); clear hbE))
        all_goals
          go_wp2_with fail
          have hlt := HLT.out
          have HT2 := hide (hnx.out)
          rw [if_pos HK.out] at HT2
          go_roundw
          case rel => exact ⟨i + 1, _, by go_num, by rw [bytes_cat, bytes_cat, bytes_cat], by omega, hide (by rw [← HT2.out]; simp), hide (hJ.out.trans (HE.out.mono hJ.out.size))⟩
          case measure => simp [intOf]; omega
      · have hkf : (x.k == 1) = false := by simpa using hk
        have HK := hide hk
        clear hk
        go_wp2_with fail
        go_region_with (first
          | (go_at_call_of 12 (Value.slice a2 (NN.body x).length c2); refine (cB.out _ (Chg.bel (by (repeat' (first | with_reducible exact Chg.refl _ _ | with_reducible refine Chg.alloc ?_ _ | with_reducible refine Chg.drew ?_ | with_reducible refine Chg.drewN ?_ _ | with_reducible refine Chg.set_ ?_ _ _ (by first | (simp; done) | (simp; omega) | omega)))))).mono ?_; rintro e wB ⟨rfl, hbB⟩; have HB := hide (below_step (a := wr) (Chg.bel (by (repeat' (first | with_reducible exact Chg.refl _ _ | with_reducible refine Chg.alloc ?_ _ | with_reducible refine Chg.drew ?_ | with_reducible refine Chg.drewN ?_ _ | with_reducible refine Chg.set_ ?_ _ _ (by first | (simp; done) | (simp; omega) | omega))))) hbB); have k5 := hcl.out wB HB.out 5 _ rfl; clear hbB)
          | (go_at_call_of 12 (Value.slice a3 (NN.els x).length c3); refine (cE.out _ HB.out).mono ?_; rintro e wE ⟨rfl, hbE⟩; have HE := hide (below_step HB.out hbE); clear hbE))
        all_goals
          go_wp2_with fail
          have hlt := HLT.out
          have HT2 := hide (hnx.out)
          rw [if_neg HK.out] at HT2
          go_roundw
          case rel => exact ⟨i + 1, _, by go_num, by rw [bytes_cat, bytes_cat], by omega, hide (by rw [← HT2.out]; simp), hide (hJ.out.trans (HE.out.mono hJ.out.size))⟩
          case measure => simp [intOf]; omega
    · obtain rfl : i = l.length := by omega
      have hif : decide ((l.length : Int) < (l.length : Int)) = false := by simp
      have hte := hide (show t = textsL (m + 1) l by rw [ht.out, List.take_length]; rfl)
      clear hil hlt
      go_wp2_with fail
      go_ret
      exact ⟨by rw [← hte.out]; rfl, hJ.out⟩
theorem texts_none (U : World → Nat → Prop) (hU : Lasts U) (a : Option Addr) (c : Nat) (l : List (NT 0)) (w : World) : Calls Tryz.prog 12 #[.slice a l.length c] w (TextsOf 0 w l) := by
  obtain rfl : l = [] := by
    cases l with
    | nil => rfl
    | cons x l => exact x.elim
  exact (texts_step 0 [] (fun h => absurd rfl h) U hU a c w AtR.nil (Nat.zero_le _)).mono fun e w' h => h
theorem texts_any : ∀ (n : Nat) (U : World → Nat → Prop) (hU : Lasts U) (a : Option Addr) (c : Nat) (l : List (NT n)) (w : World), AtR (NodeR n) 9 U w a l → sumBy (massN n) l ≤ 1048576 → Calls Tryz.prog 12 #[.slice a l.length c] w (TextsOf n w l) := by
  intro n
  induction n with
  | zero => exact fun U hU a c l w _ _ => texts_none U hU a c l w
  | succ m ih => exact fun U hU a c l w h hm => texts_step m l (fun _ => ih) U hU a c w h hm
end Go.Proofs.YtnepogddjinpoaaGreatDoor
