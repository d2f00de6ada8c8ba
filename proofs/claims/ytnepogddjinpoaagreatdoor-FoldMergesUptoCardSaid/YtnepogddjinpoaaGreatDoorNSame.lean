/-
  The page's Same (of nodes), at two lists of the same content.
-/
import Derived.Test.YtnepogddjinpoaaGreatDoorPSame
namespace Go.Proofs.YtnepogddjinpoaaGreatDoor
open Go.RowKit
set_option linter.unusedVariables false
set_option linter.unusedSimpArgs false

def SameOf (w : World) (e : Ending) (w' : World) : Prop := e = .returned (.bool true) ∧ Below w.heap.size w w'
set_option maxHeartbeats 4000000 in
set_option maxRecDepth 100000 in
theorem same_step (m : Nat) (l : List (NN (NT m))) (ih : l ≠ [] → ∀ (U : World → Nat → Prop) (hU : Lasts U) (a1 a2 : Option Addr) (c1 c2 : Nat) (l : List (NT m)) (w : World), AtR (NodeR m) 9 U w a1 l → AtR (NodeR m) 9 U w a2 l → sumBy (massN m) l ≤ 1048576 → Calls Tryz.prog 14 #[.slice a1 l.length c1, .slice a2 l.length c2, .bool true] w (SameOf w))
    (U : World → Nat → Prop) (hU : Lasts U) (a1 a2 : Option Addr) (c1 c2 : Nat) (w : World) (h1 : AtR (NodeR (m + 1)) 9 U w a1 l) (h2 : AtR (NodeR (m + 1)) 9 U w a2 l) (hm : sumBy (massN (m + 1)) l ≤ 1048576) : Calls Tryz.prog 14 #[.slice a1 l.length c1, .slice a2 l.length c2, .bool true] w (SameOf w) := by
  have hlen : l.length ≤ 1048576 := Nat.le_trans (sumBy_len (massN (m + 1)) massN_pos l) hm
  have H1 := hide h1; have H2 := hide h2; have HM := hide hm
  clear h1 h2 hm
  go_enter Tryz.func14, Tryz.ntmps14
  go_wp2_with fail
  go_loopw [7] (fun iv wr => ∃ (i : Nat), iv = .int .i64 (i : Int) ∧ i ≤ l.length ∧ Hid (Below w.heap.size w wr)) (fun iv _ => l.length - (intOf iv).toNat)
  case atStart => exact ⟨0, rfl, Nat.zero_le _, Below.refl _ _⟩
  case round =>
    obtain ⟨i, rfl, hil, hJ⟩ := hrel
    by_cases hlt : i < l.length
    · obtain ⟨x, hx⟩ : ∃ x, l[i]? = some x := ⟨_, List.getElem?_eq_getElem hlt⟩
      obtain ⟨g1, o1, vs1, rfl, hg1, _, _, hcell1, hN1⟩ := (H1.out.on (NodeR.steady (m + 1)) (hU.stays hJ.out)) i x hx
      obtain ⟨g2, o2, vs2, rfl, hg2, _, _, hcell2, hN2⟩ := (H2.out.on (NodeR.steady (m + 1)) (hU.stays hJ.out)) i x hx
      obtain ⟨p1, d1, b1, t1, e1, s1, rfl, q1, q2, q3⟩ := hN1.parts
      obtain ⟨p2, d2, b2, t2, e2, s2, rfl, r1, r2, r3⟩ := hN2.parts
      have m0 := hcell1 0 _ rfl; have m1 := hcell1 1 _ rfl; have m2 := hcell1 2 _ rfl; have m3 := hcell1 3 _ rfl; have m4 := hcell1 4 _ rfl; have m5 := hcell1 5 _ rfl; have m6 := hcell1 6 _ rfl; have m7 := hcell1 7 _ rfl; have m8 := hcell1 8 _ rfl
      have n0 := hcell2 0 _ rfl; have n1 := hcell2 1 _ rfl; have n2 := hcell2 2 _ rfl; have n3 := hcell2 3 _ rfl; have n4 := hcell2 4 _ rfl; have n5 := hcell2 5 _ rfl; have n6 := hcell2 6 _ rfl; have n7 := hcell2 7 _ rfl; have n8 := hcell2 8 _ rfl
      simp only [Nat.add_zero] at m0 n0
      have hji : (i : Int) < (l.length : Int) := by omega
      have hxm := sumBy_mem (massN (m + 1)) l x (List.mem_of_getElem? hx)
      rw [massN_succ] at hxm
      have hm1 : sumBy massC x.pipe ≤ 1048576 := by have := HM.out; omega
      have hm2 : sumBy (massN m) x.body ≤ 1048576 := by have := HM.out; omega
      have hm3 : sumBy (massN m) x.els ≤ 1048576 := by have := HM.out; omega
      have hne : l ≠ [] := fun e => by rw [e] at hlt; exact absurd hlt (Nat.not_lt_zero _)
      have cP := hide (fun (W' : World) (h : Below wr.heap.size wr W') => samePipe_eq U hU p1 p2 d1 d2 x.pipe W' (q1.on CallR.steady (hU.stays h)) (r1.on CallR.steady (hU.stays h)) hm1)
      have cB : Hid (∀ (W' : World), Below wr.heap.size wr W' → Calls Tryz.prog 14 #[.slice b1 x.body.length t1, .slice b2 x.body.length t2, .bool true] W' fun e w' => e = .returned (.bool true) ∧ Below W'.heap.size W' w') := hide (fun (W' : World) (h : Below wr.heap.size wr W') => ih hne U hU b1 b2 t1 t2 x.body W' (q2.on (NodeR.steady m) (hU.stays h)) (r2.on (NodeR.steady m) (hU.stays h)) hm2)
      have cE : Hid (∀ (W' : World), Below wr.heap.size wr W' → Calls Tryz.prog 14 #[.slice e1 x.els.length s1, .slice e2 x.els.length s2, .bool true] W' fun e w' => e = .returned (.bool true) ∧ Below W'.heap.size W' w') := hide (fun (W' : World) (h : Below wr.heap.size wr W') => ih hne U hU e1 e2 s1 s2 x.els W' (q3.on (NodeR.steady m) (hU.stays h)) (r3.on (NodeR.steady m) (hU.stays h)) hm3)
      have hi9 : i < 1048576 := by omega
      have HLT := hide hlt
      clear hcell1 hcell2 hN1 hN2 q1 q2 q3 r1 r2 r3 hx hxm hm1 hm2 hm3 hne hil hlen hlt
      go_wp2_with fail
      go_region
      all_goals
        go_wp2_with fail
        refine name_world fun W hW => ?_
        have C1 : Chg [] wr W := by subst hW; (repeat' (first | with_reducible exact Chg.refl _ _ | with_reducible refine Chg.alloc ?_ _ | with_reducible refine Chg.drew ?_ | with_reducible refine Chg.drewN ?_ _ | with_reducible refine Chg.set_ ?_ _ _ (by first | (simp; done) | (simp; omega) | omega)))
        first
          | (have K7 : Blk W wr.heap.size 61 ⟨nodeCells x.k ⟨x.s.toArray⟩ ⟨x.nm.toArray⟩ p1 x.pipe.length d1 b1 x.body.length t1 e1 x.els.length s1 x.pos x.esc x.unit⟩ := by subst hW; (repeat' (first | with_reducible exact Blk.new_ (by first | rfl | (simp; done) | (simp; omega)) | with_reducible refine Blk.alloc_ ?_ | with_reducible refine Blk.drew ?_ | with_reducible refine Blk.drewN ?_ _ | with_reducible refine Blk.far_ ?_ (by first | (simp; done) | (simp; omega) | omega) | with_reducible apply Blk.set_eq | rfl))
             have K8 : Blk W (wr.heap.size + 1) 61 ⟨nodeCells x.k ⟨x.s.toArray⟩ ⟨x.nm.toArray⟩ p2 x.pipe.length d2 b2 x.body.length t2 e2 x.els.length s2 x.pos x.esc x.unit⟩ := by subst hW; (repeat' (first | with_reducible exact Blk.new_ (by first | rfl | (simp; done) | (simp; omega)) | with_reducible refine Blk.alloc_ ?_ | with_reducible refine Blk.drew ?_ | with_reducible refine Blk.drewN ?_ _ | with_reducible refine Blk.far_ ?_ (by first | (simp; done) | (simp; omega) | omega) | with_reducible apply Blk.set_eq | rfl))
             have HK7 := hide K7; have HK8 := hide K8
             clear K7 K8)
          | (have K7 : Blk W (wr.heap.size + 1) 61 ⟨nodeCells x.k ⟨x.s.toArray⟩ ⟨x.nm.toArray⟩ p1 x.pipe.length d1 b1 x.body.length t1 e1 x.els.length s1 x.pos x.esc x.unit⟩ := by subst hW; (repeat' (first | with_reducible exact Blk.new_ (by first | rfl | (simp; done) | (simp; omega)) | with_reducible refine Blk.alloc_ ?_ | with_reducible refine Blk.drew ?_ | with_reducible refine Blk.drewN ?_ _ | with_reducible refine Blk.far_ ?_ (by first | (simp; done) | (simp; omega) | omega) | with_reducible apply Blk.set_eq | rfl))
             have K8 : Blk W wr.heap.size 61 ⟨nodeCells x.k ⟨x.s.toArray⟩ ⟨x.nm.toArray⟩ p2 x.pipe.length d2 b2 x.body.length t2 e2 x.els.length s2 x.pos x.esc x.unit⟩ := by subst hW; (repeat' (first | with_reducible exact Blk.new_ (by first | rfl | (simp; done) | (simp; omega)) | with_reducible refine Blk.alloc_ ?_ | with_reducible refine Blk.drew ?_ | with_reducible refine Blk.drewN ?_ _ | with_reducible refine Blk.far_ ?_ (by first | (simp; done) | (simp; omega) | omega) | with_reducible apply Blk.set_eq | rfl))
             have HK7 := hide K7; have HK8 := hide K8
             clear K7 K8)
        clear hW m0 m1 m2 m3 m4 m5 m6 m7 m8 n0 n1 n2 n3 n4 n5 n6 n7 n8
        refine (cP.out W C1.bel).mono ?_
        rintro e w1 ⟨rfl, hb1⟩
        have C2 := C1.trans (Chg.of_below (S := []) hb1) (by simp)
        have A7 := HK7.out.chg (Chg.of_below (S := []) hb1) (by simp)
        have A8 := HK8.out.chg (Chg.of_below (S := []) hb1) (by simp)
        have k4 := A7.cell 4; have j4 := A8.cell 4; simp at k4 j4
        have z7 := A7.lt; have z8 := A8.lt
        clear hb1 C1
        go_wp2_with fail
        refine (cB.out w1 C2.bel).mono ?_
        rintro e w2 ⟨rfl, hb2⟩
        have C3 := C2.trans (Chg.of_below (S := []) hb2) (by simp)
        have A7 := A7.chg (Chg.of_below (S := []) hb2) (by simp)
        have A8 := A8.chg (Chg.of_below (S := []) hb2) (by simp)
        clear k4 j4 z7 z8
        have k5 := A7.cell 5; have j5 := A8.cell 5; simp at k5 j5
        have z7 := A7.lt; have z8 := A8.lt
        clear hb2 C2
        go_wp2_with fail
        refine (cE.out w2 C3.bel).mono ?_
        rintro e w3 ⟨rfl, hb3⟩
        have C4 := hide (C3.trans (Chg.of_below (S := []) hb3) (by simp))
        have A7 := A7.chg (Chg.of_below (S := []) hb3) (by simp)
        have A8 := A8.chg (Chg.of_below (S := []) hb3) (by simp)
        clear k5 j5 z7 z8
        have k6 := A7.cell 6; have j6 := A8.cell 6; have k7 := A7.cell 7; have j7 := A8.cell 7; have k8 := A7.cell 8; have j8 := A8.cell 8; simp at k6 j6 k7 j7 k8 j8
        have z7 := A7.lt; have z8 := A8.lt
        clear hb3 C3 A7 A8
        go_wp2_with fail
        have hlt := HLT.out
        go_roundw
        case rel => exact ⟨i + 1, by go_num, by omega, hide (hJ.out.trans (C4.out.bel.mono hJ.out.size))⟩
        case measure => simp [intOf]; omega
    · obtain rfl : i = l.length := by omega
      have hif : decide ((l.length : Int) < (l.length : Int)) = false := by simp
      clear hil hlt
      go_wp2_with fail
      go_ret
      exact ⟨rfl, hJ.out⟩
theorem same_none (U : World → Nat → Prop) (hU : Lasts U) (a1 a2 : Option Addr) (c1 c2 : Nat) (l : List (NT 0)) (w : World) : Calls Tryz.prog 14 #[.slice a1 l.length c1, .slice a2 l.length c2, .bool true] w (SameOf w) := by
  obtain rfl : l = [] := by
    cases l with
    | nil => rfl
    | cons x l => exact x.elim
  exact (same_step 0 [] (fun h => absurd rfl h) U hU a1 a2 c1 c2 w AtR.nil AtR.nil (Nat.zero_le _)).mono fun e w' h => h
theorem same_eq : ∀ (n : Nat) (U : World → Nat → Prop) (hU : Lasts U) (a1 a2 : Option Addr) (c1 c2 : Nat) (l : List (NT n)) (w : World), AtR (NodeR n) 9 U w a1 l → AtR (NodeR n) 9 U w a2 l → sumBy (massN n) l ≤ 1048576 → Calls Tryz.prog 14 #[.slice a1 l.length c1, .slice a2 l.length c2, .bool true] w (SameOf w) := by
  intro n
  induction n with
  | zero => exact fun U hU a1 a2 c1 c2 l w _ _ _ => same_none U hU a1 a2 c1 c2 l w
  | succ m ih => exact fun U hU a1 a2 c1 c2 l w h1 h2 hm => same_step m l (fun _ => ih) U hU a1 a2 c1 c2 w h1 h2 hm
end Go.Proofs.YtnepogddjinpoaaGreatDoor
