/-
  fold.Merge: texts beside each other as one, at every depth.
-/
import Derived.Test.YtnepogddjinpoaaGreatDoorBeside
namespace Go.Proofs.YtnepogddjinpoaaGreatDoor
open Go.RowKit
set_option linter.unusedVariables false
set_option linter.unusedSimpArgs false

/-- What fold.Merge gives: a row of its own. -/
def MergeOf (n : Nat) (w : World) (l : List (NT n)) (e : Ending) (w' : World) : Prop := ∃ A c es, e = .returned (.slice A (mergeL n l).length c) ∧ RowR (NodeR n) 9 w.heap.size 61 w' (.slice A (mergeL n l).length c) es (mergeL n l) ∧ Below w.heap.size w w'
theorem besideStep_from {α : Type} (P : NN α → Prop) (hP : ∀ (y : NN α) (s : List UInt8), P y → P { y with s := s }) {out : List (NN α)} {x : NN α} (h : ∀ y ∈ out, P y) (hx : P x) : ∀ y ∈ besideStep out x, P y := by
  unfold besideStep
  cases hl : out.getLast? with
  | none => intro y hy; simp at hy; subst hy; exact hx
  | some z =>
    have hs := last_split hl
    simp only
    by_cases hc : x.k = 1 ∧ z.k = 1
    · rw [if_pos hc]
      intro y hy
      rcases List.mem_append.1 hy with hy | hy
      · exact h y (by rw [hs]; simp [hy])
      · simp at hy; subst hy; exact hP z _ (h z (by rw [hs]; simp))
    · rw [if_neg hc]
      intro y hy
      rcases List.mem_append.1 hy with hy | hy
      · exact h y hy
      · simp at hy; subst hy; exact hx
theorem foldl_from {α : Type} (P : NN α → Prop) (hP : ∀ (y : NN α) (s : List UInt8), P y → P { y with s := s }) : ∀ (l out : List (NN α)), (∀ y ∈ out, P y) → (∀ y ∈ l, P y) → ∀ y ∈ l.foldl besideStep out, P y := by
  intro l
  induction l with
  | nil => intro out h _; exact h
  | cons x l ih => intro out h hl; exact ih _ (besideStep_from P hP h (hl x (by simp))) fun y hy => hl y (by simp [hy])
theorem beside_from {α : Type} (P : NN α → Prop) (hP : ∀ (y : NN α) (s : List UInt8), P y → P { y with s := s }) {l : List (NN α)} (h : ∀ y ∈ l, P y) : ∀ y ∈ besideL l, P y := foldl_from P hP l [] (by simp) h
theorem set_here {α : Type} {l : List α} {i : Nat} {y : α} (h : i < l.length) : (l.set i y)[i]? = some y := by simp [h]
theorem set_twice {α : Type} {l : List α} {i : Nat} {y z : α} : (l.set i y).set i z = l.set i z := by simp
theorem RowR.same {α : Type} {R : Rel α} {size base : Nat} {e : TypeId} {w : World} {v : Value} {es : List (List Value)} {xs ys : List α} (h : RowR R size base e w v es xs) (hx : xs = ys) : RowR R size base e w v es ys := hx ▸ h
theorem lasts_low (U : World → Nat → Prop) (wo : World) : Lasts (lowB U wo) := fun _ _ _ _ _ h => h
/-- One node of a row, with its two lists merged: what two stores into the row leave. -/
theorem RowR.put2 {m N : Nat} {w : World} {g n cap : Nat} {es : List (List Value)} {xs : List (NN (NT m))} {i : Nat} {x : NN (NT m)} {b1 b2 b3 : Option Addr} {d1 d2 d3 : Nat} {body els : List (NT m)} {AB AE : Option Addr} {kB kE : Nat}
    (h : RowR (NodeR (m + 1)) 9 N 61 w (.slice (some ⟨g, 0, none⟩) n cap) es xs) (hx : xs[i]? = some x) (hc : es[i]? = some (nodeCells x.k ⟨x.s.toArray⟩ ⟨x.nm.toArray⟩ b1 x.pipe.length d1 b2 x.body.length d2 b3 x.els.length d3 x.pos x.esc x.unit))
    (hp : AtR CallR 2 (besideB N (some g)) w b1 x.pipe) (h2 : AtR (NodeR m) 9 (besideB N (some g)) w b2 x.body) (hB : AtR (NodeR m) 9 (besideB N (some g)) w AB body) (hE : AtR (NodeR m) 9 (besideB N (some g)) w AE els) (h3 : AtR (NodeR m) 9 (besideB N (some g)) w b3 x.els) :
    ∃ es', RowR (NodeR (m + 1)) 9 N 61 ((w.setCell ⟨g, i * 9 + 4, none⟩ (.slice AB body.length kB)).setCell ⟨g, i * 9 + 5, none⟩ (.slice AE els.length kE)) (.slice (some ⟨g, 0, none⟩) n cap) es' (xs.set i ({ x with body := body, els := els } : NN (NT m))) := by
  have r1 := h.put (NodeR.steady (m + 1)) hc hx (t := 4) (by decide) (.slice AB body.length kB) (y := ({ x with body := body } : NN (NT m))) (NodeR.made (x := ({ x with body := body } : NN (NT m))) hp hB h3)
  have hs : Stays (besideB N (some g)) (besideB N (some g)) w (w.setCell ⟨g, i * 9 + 4, none⟩ (.slice AB body.length kB)) := by
    refine stays_beside (by simp) fun b h1 _ h3 => Below.heap_setCell w _ _ b ?_
    intro e; subst e; exact h3 rfl
  have hle : i < es.length := (List.getElem?_eq_some_iff.1 hc).1
  have hlx : i < xs.length := (List.getElem?_eq_some_iff.1 hx).1
  have r2 := r1.put (NodeR.steady (m + 1)) (r := i) (c := (nodeCells x.k ⟨x.s.toArray⟩ ⟨x.nm.toArray⟩ b1 x.pipe.length d1 b2 x.body.length d2 b3 x.els.length d3 x.pos x.esc x.unit).set 4 (.slice AB body.length kB)) (x := ({ x with body := body } : NN (NT m))) (set_here hle) (set_here hlx) (t := 5) (by decide) (.slice AE els.length kE) (y := ({ x with body := body, els := els } : NN (NT m))) (NodeR.made (x := ({ x with body := body, els := els } : NN (NT m))) (hp.on CallR.steady hs) (hB.on (NodeR.steady m) hs) (hE.on (NodeR.steady m) hs))
  exact ⟨_, r2.same set_twice⟩
set_option maxHeartbeats 4000000 in
set_option maxRecDepth 100000 in
theorem merge_step (m : Nat) (l : List (NN (NT m))) (ih : l ≠ [] → ∀ (U : World → Nat → Prop) (hU : Lasts U) (a : Option Addr) (c : Nat) (l : List (NT m)) (w : World), AtR (NodeR m) 9 U w a l → sumBy (massN m) l ≤ 1048576 → Calls Tryz.prog 11 #[.slice a l.length c] w (MergeOf m w l))
    (U : World → Nat → Prop) (hU : Lasts U) (a : Option Addr) (c : Nat) (w : World) (h : AtR (NodeR (m + 1)) 9 U w a l) (hm : sumBy (massN (m + 1)) l ≤ 1048576) : Calls Tryz.prog 11 #[.slice a l.length c] w (MergeOf (m + 1) w l) := by
  have hlen : l.length ≤ 1048576 := Nat.le_trans (sumBy_len (massN (m + 1)) massN_pos l) hm
  have htx : sumBy (fun x : NN (NT m) => x.s.length) l ≤ 1048576 := Nat.le_trans (sumBy_le (f := fun x : NN (NT m) => x.s.length) (g := massN (m + 1)) l (fun x _ => by rw [massN_succ]; omega)) hm
  have cA := all_any (m + 1) U hU a c l w h hm
  have hch : ∀ x ∈ besideL l, sumBy (massN m) x.body ≤ 1048576 ∧ sumBy (massN m) x.els ≤ 1048576 := beside_from (fun x : NN (NT m) => sumBy (massN m) x.body ≤ 1048576 ∧ sumBy (massN m) x.els ≤ 1048576) (fun _ _ h => h) fun y hy => by
    have e1 := sumBy_mem (massN (m + 1)) l y hy
    rw [massN_succ] at e1
    omega
  have HCH := hide hch
  have HLE := hide (show (besideL l).length ≤ 1048576 by have := foldl_len l ([] : List (NN (NT m))); simp at this; unfold besideL; omega)
  have HCA := hide cA
  have HTX := hide htx
  clear h hm hch htx cA
  go_enter Tryz.func11, Tryz.ntmps11
  go_wp2_with fail
  refine HCA.out.mono ?_
  rintro e w1 ⟨A1, c1, es1, rfl, hr1, hb1⟩
  have HR1 := hide hr1; have HB1 := hide hb1
  clear hr1 hb1
  go_wp2_with fail
  refine (beside_any m w.heap.size A1 c1 l w1 HB1.out.size (HR1.out.at_ (NodeR.steady (m + 1)) rfl (Nat.le_refl _)) hlen HTX.out).mono ?_
  rintro e w2 ⟨A2, c2, es2, rfl, hr2, hb2⟩
  obtain ⟨L, hL⟩ : ∃ L, besideL l = L := ⟨_, rfl⟩
  rw [hL] at hr2 HCH HLE
  have HL := hide hL
  simp only [hL]
  clear hL
  have hI : Hid (Below w.heap.size w w2 ∧ RowR (NodeR (m + 1)) 9 w.heap.size 61 w2 (.slice A2 L.length c2) es2 L) := ⟨below_step HB1.out hb2, hr2⟩
  clear hr2 hb2
  go_wp2_with fail
  go_loopw [10] (fun iv wr => ∃ (i : Nat) (es : List (List Value)) (xs : List (NN (NT m))), iv = .int .i64 (i : Int) ∧ i ≤ L.length ∧ Hid (xs = (L.take i).map (underN (mergeL m)) ++ L.drop i) ∧ Hid (Below w.heap.size w wr ∧ RowR (NodeR (m + 1)) 9 w.heap.size 61 wr (.slice A2 L.length c2) es xs)) (fun iv _ => L.length - (intOf iv).toNat)
  case atStart => exact ⟨0, es2, L, rfl, Nat.zero_le _, by simp [Hid], hI⟩
  case round =>
    obtain ⟨i, es, xs, rfl, hil, hxs, hJ⟩ := hrel
    have hxl : xs.length = L.length := by rw [hxs.out]; simp; omega
    by_cases hlt : i < L.length
    · obtain ⟨x, hx⟩ : ∃ x, L[i]? = some x := ⟨_, List.getElem?_eq_getElem hlt⟩
      have hxi : xs[i]? = some x := by
        rw [hxs.out, List.getElem?_append_right (by simp; omega)]
        simp [Nat.min_eq_left hil, hx]
      have hij : (i : Int) < (L.length : Int) := by omega
      have hel : es.length = L.length := hJ.out.2.len.trans hxl
      obtain ⟨cx, hcx⟩ : ∃ cx, es[i]? = some cx := ⟨_, List.getElem?_eq_getElem (by rw [hel]; exact hlt)⟩
      obtain ⟨g, cap, cur, hv, hbg, hg⟩ : ∃ g cap cur, Value.slice A2 L.length c2 = .slice (some ⟨g, 0, none⟩) es.length cap ∧ w.heap.size ≤ g ∧ wr.heap[g]? = some (.cells cur 61 (0, 0)) := by
        rcases hJ.out.2.own.2 with ⟨_, h1⟩ | ⟨g, cap, cur, hv2, hb, hg, _⟩
        · rw [hel] at h1; omega
        · exact ⟨g, cap, cur, hv2, hb, hg⟩
      injection hv with e1 e3 e2
      subst e1; subst e2
      clear e3
      have hgl : g < wr.heap.size := (Array.getElem?_eq_some_iff.1 hg).1
      obtain ⟨b1, d1, b2, d2, b3, d3, rfl, t1, t2, t3⟩ := NodeR.parts (hJ.out.2.each i cx x hcx hxi)
      have HT := hide (And.intro hcx (And.intro hxi (And.intro t1 (And.intro t2 t3))))
      have hms := HCH.out x (List.mem_of_getElem? hx)
      have hne : l ≠ [] := fun e => by
        have h1 := HL.out
        rw [e] at h1
        rw [← h1] at hlt
        exact absurd hlt (Nat.not_lt_zero _)
      have hnx := hide (show xs.set i (underN (mergeL m) x) = (L.take (i + 1)).map (underN (mergeL m)) ++ L.drop (i + 1) by
        rw [hxs.out, List.set_append_right _ _ (by simp; omega)]
        have e0 : i - (List.map (underN (mergeL m)) (L.take i)).length = 0 := by simp; omega
        rw [e0, List.drop_eq_getElem_cons hlt, List.set_cons_zero, List.take_add_one, hx]
        simp)
      have cB := hide (fun (W' : World) (h : Below wr.heap.size wr W') => ih hne (lowB (besideB w.heap.size (some g)) wr) (lasts_low _ _) b2 d2 x.body W' (HT.out.2.2.2.1.low (NodeR.steady m) |>.on (NodeR.steady m) (stays_low (Below.refl _ _) h h.size)) hms.1)
      have cE := hide (fun (W' : World) (h : Below wr.heap.size wr W') => ih hne (lowB (besideB w.heap.size (some g)) wr) (lasts_low _ _) b3 d3 x.els W' (HT.out.2.2.2.2.low (NodeR.steady m) |>.on (NodeR.steady m) (stays_low (Below.refl _ _) h h.size)) hms.2)
      have r4 := hJ.out.2.cell hcx (t := 4) rfl
      have r5 := hJ.out.2.cell hcx (t := 5) rfl
      have hb0 := hJ.out.1.size
      have hw2 := hide hms
      have HXL := hide hxl; have HLT := hide hlt
      have hi9 : i < 1048576 := by have := HLE.out; omega
      clear hcx hxi hx t1 t2 t3 hms hg hne hel hxl hil hlen hlt
      go_wp2_with fail
      go_region_with (first
        | (go_at_call_of 11 (Value.slice b2 (NN.body x).length d2); refine (cB.out _ (Chg.bel (by (repeat' (first | with_reducible exact Chg.refl _ _ | with_reducible refine Chg.alloc ?_ _ | with_reducible refine Chg.drew ?_ | with_reducible refine Chg.drewN ?_ _ | with_reducible refine Chg.set_ ?_ _ _ (by first | (simp; done) | (simp; omega) | omega)))))).mono ?_; rintro e wB ⟨AB, kB, eB, rfl, hrB, hbB⟩; have HB := hide (And.intro hrB (And.intro hbB (below_step (a := wr) (Chg.bel (by (repeat' (first | with_reducible exact Chg.refl _ _ | with_reducible refine Chg.alloc ?_ _ | with_reducible refine Chg.drew ?_ | with_reducible refine Chg.drewN ?_ _ | with_reducible refine Chg.set_ ?_ _ _ (by first | (simp; done) | (simp; omega) | omega))))) hbB))); have HRB := hide (hJ.out.2.below (NodeR.steady (m + 1)) HB.out.2.2); have q5 := HRB.out.cell HT.out.1 (t := 5) rfl; clear hrB hbB)
        | (go_at_call_of 11 (Value.slice b3 (NN.els x).length d3); refine (cE.out _ HB.out.2.2).mono ?_; rintro e wE ⟨AE, kE, eE, rfl, hrE, hbE⟩; have HE := hide (And.intro hrE (And.intro hbE (below_step HB.out.2.2 hbE))); have HRE := hide (hJ.out.2.below (NodeR.steady (m + 1)) HE.out.2.2); have z4 := HRE.out.frozen (i * 9 + 4); have z5 := HRE.out.frozen (i * 9 + 5); have u4 := HRE.out.cell HT.out.1 (t := 4) rfl; have u5 := HRE.out.cell HT.out.1 (t := 5) rfl; have lE := HE.out.2.2.size; clear hrE hbE))
      all_goals
        go_wp2_with fail
        have hnew : ∃ es', RowR (NodeR (m + 1)) 9 w.heap.size 61 ((wE.setCell ⟨g, i * 9 + 4, none⟩ (.slice AB (mergeL m x.body).length kB)).setCell ⟨g, i * 9 + 5, none⟩ (.slice AE (mergeL m x.els).length kE)) (.slice (some ⟨g, 0, none⟩) L.length c2) es' (xs.set i (underN (mergeL m) x)) := by
          have hst : Stays (besideB w.heap.size (some g)) (besideB w.heap.size (some g)) wr wE := stays_beside HE.out.2.2.size fun b h1 _ _ => HE.out.2.2.block b h1
          have hsf : ∀ W, wr.heap.size ≤ W → Stays (freshB W) (besideB w.heap.size (some g)) wE wE := fun W hW => stays_weaken fun b _ hb => ⟨⟨by have := hb.1; omega, hb.2⟩, fun e => by injection e with e; have := hb.1; omega⟩
          exact HRE.out.put2 HT.out.2.1 HT.out.1 (HT.out.2.2.1.on CallR.steady hst) (HT.out.2.2.2.1.on (NodeR.steady m) hst) (((HB.out.1.below (NodeR.steady m) HE.out.2.1).at_ (NodeR.steady m) rfl (Nat.le_refl _)).on (NodeR.steady m) (hsf _ (by first | exact Nat.le_refl _ | simp))) ((HE.out.1.at_ (NodeR.steady m) rfl (Nat.le_refl _)).on (NodeR.steady m) (hsf _ HB.out.2.2.size)) (HT.out.2.2.2.2.on (NodeR.steady m) hst)
        obtain ⟨es', hnew⟩ := hnew
        have hlt := HLT.out
        have HNEW := hide hnew
        clear hnew
        go_roundw
        case rel => exact ⟨i + 1, es', xs.set i (underN (mergeL m) x), by go_num, by omega, hnx, hide (And.intro (((hJ.out.1.trans (HE.out.2.2.mono hb0)).setCell hbg _).setCell hbg _) HNEW.out)⟩
        case measure => simp [intOf]; omega
    · obtain rfl : i = L.length := by omega
      have hif : decide ((L.length : Int) < (L.length : Int)) = false := by simp
      have hxe : xs = mergeL (m + 1) l := by rw [hxs.out, List.take_length, List.drop_length, ← HL.out, List.append_nil]; rfl
      have hxm : (mergeL (m + 1) l).length = L.length := by rw [← hxe]; exact hxl
      have HXE := hide hxe
      clear hxl hil hlt hxe
      go_wp2_with fail
      go_ret
      refine ⟨A2, c2, es, by rw [hxm]; rfl, ?_, hJ.out.1⟩
      rw [hxm, ← HXE.out]
      exact hJ.out.2
theorem merge_none (U : World → Nat → Prop) (hU : Lasts U) (a : Option Addr) (c : Nat) (l : List (NT 0)) (w : World) : Calls Tryz.prog 11 #[.slice a l.length c] w (MergeOf 0 w l) := by
  obtain rfl : l = [] := by
    cases l with
    | nil => rfl
    | cons x l => exact x.elim
  refine (merge_step 0 [] (fun h => absurd rfl h) U hU a c w AtR.nil (Nat.zero_le _)).mono ?_
  rintro e w' ⟨A1, c1, es, he, hr, hb⟩
  refine ⟨A1, c1, es, he, ⟨hr.own, hr.sized, hr.len, ?_⟩, hb⟩
  intro r d x _ _
  exact x.elim
theorem merge_any : ∀ (n : Nat) (U : World → Nat → Prop) (hU : Lasts U) (a : Option Addr) (c : Nat) (l : List (NT n)) (w : World), AtR (NodeR n) 9 U w a l → sumBy (massN n) l ≤ 1048576 → Calls Tryz.prog 11 #[.slice a l.length c] w (MergeOf n w l) := by
  intro n
  induction n with
  | zero => exact fun U hU a c l w _ _ => merge_none U hU a c l w
  | succ m ih => exact fun U hU a c l w h hm => merge_step m l (fun _ => ih) U hU a c w h hm
end Go.Proofs.YtnepogddjinpoaaGreatDoor
