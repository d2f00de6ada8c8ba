/-
  PLAIN LAWS of many texts, in one.
-/
import Derived.Test.YtnepogddjinpoaaGreatDoorP8
import Derived.Test.YtnepogddjinpoaaGreatDoorP9
import Derived.Test.YtnepogddjinpoaaGreatDoorP4
import Derived.Test.YtnepogddjinpoaaGreatDoorP3
import Derived.Test.YtnepogddjinpoaaGreatDoorIdxA
import Derived.Test.YtnepogddjinpoaaGreatDoorP12
import Derived.Deep.RegionWith
import Derived.Maps.AppendAt
import Derived.Test.YtnepogddjinpoaaGreatDoorM4
import Derived.Laws.AppendOwnNone
namespace Go.Proofs.YtnepogddjinpoaaGreatDoor
open Go.RowKit
set_option linter.unusedVariables false
set_option linter.unusedSimpArgs false

/-- A constant pipeline's value, and whether there is one. -/
def ToldV (w : World) (o : Option (VD 0)) (e : Ending) (w' : World) : Prop := ∃ p c p2 c2, e = .returned (.tuple #[.agg (vCells (dK o) (dI o) (dS o) p 0 c p2 0 c2), .bool o.isSome]) ∧ Below w.heap.size w w'
theorem pipe_args {l : List CallD} (h : pipeOk l = true) : ∀ x ∈ l, ∀ y ∈ x.args, argMayP y = true := by
  have key : ∀ (x : CallD) (b : Bool), callMayP x b = true → ∀ y ∈ x.args, argMayP y = true := by
    intro x b hx y hy
    unfold callMayP at hx
    rw [Bool.and_eq_true] at hx
    exact List.all_eq_true.1 hx.1 y hy
  cases l with
  | nil => cases h
  | cons c r =>
    unfold pipeOk at h
    simp only [Bool.and_eq_true, List.all_eq_true] at h
    intro x hx
    rcases List.mem_cons.1 hx with h1 | h1
    · rw [h1]; exact key c false h.1.2
    · exact key x true (h.2 x h1)
theorem pipe_kinds {l : List CallD} (h : pipeOk l = true) (hc : constP l = true) : ∀ x ∈ l, ∀ y ∈ x.args, KindA y := by
  intro x hx y hy
  have h1 := pipe_args h x hx y hy
  unfold constP at hc
  rw [Bool.not_eq_true'] at hc
  have h2 := List.any_eq_false.1 hc x hx
  have h3 : asksA y = false := by
    cases hq : asksA y with
    | false => rfl
    | true => exact absurd (List.any_eq_true.2 ⟨y, hy, hq⟩) h2
  unfold asksA at h3
  simp only [Bool.or_eq_false_iff, beq_eq_false_iff_ne] at h3
  unfold argMayP at h1
  simp only [Bool.and_eq_true, decide_eq_true_eq] at h1
  refine ⟨?_, ?_⟩
  · have := h1.1.1.1.1.1.1.2
    omega
  · exact h1.1.1.1.1.1.2
theorem pipe_ne {l : List CallD} (h : pipeOk l = true) : l ≠ [] := by rintro rfl; cases h
set_option maxHeartbeats 2000000 in
set_option maxRecDepth 100000 in
theorem ogValue (U : World → Nat → Prop) (hU : Lasts U) (a : Option Addr) (c : Nat) (l : List CallD) (w : World) (h : AtR CallR 2 U w a l) (hm : sumBy massC l ≤ 1048576) (hn : ∀ x ∈ l, numC x) (hok : pipeOk l = true) :
    Calls Tryz.prog 88 #[.slice a l.length c] w (ToldV w (valueP l)) := by
  have cC := hide (fun W (hb : Below w.heap.size w W) => constant_any U hU a c l W (h.on CallR.steady (hU.stays hb)) hm)
  have cP := hide (fun (hc : constP l = true) W (hb : Below w.heap.size w W) => ogPipe_cons U hU a c l W (pipe_ne hok) (h.on CallR.steady (hU.stays hb)) hm hn (pipe_kinds hok hc))
  have hfine : FineR (pipeR envO l) := pipe_fine ⟨good_null, good_null, fun x hx => by cases hx⟩ (goods hm hn)
  rw [show pipeR envO l = pipeFrom envO l none by simp [pipeR, pipe_ne hok]] at hfine
  obtain ⟨m, hmm⟩ : ∃ m, l.length = m := ⟨_, rfl⟩
  simp only [hmm] at cC cP ⊢
  cases hc : constP l with
  | false =>
    have hv : valueP l = none := by unfold valueP; rw [hc]; rfl
    rw [hv]
    simp only [hc] at cC
    clear hv hfine cP h hm hn hok hmm hc
    go_enter Tryz.func88, Tryz.ntmps88
    go_wp2_with fail
    refine name_world fun W hW => ?_
    have C1 : Chg [] w W := by subst hW; (repeat' (first | with_reducible exact Chg.refl _ _ | with_reducible refine Chg.alloc ?_ _ | with_reducible refine Chg.drew ?_ | with_reducible refine Chg.drewN ?_ _ | with_reducible refine Chg.set_ ?_ _ _ (by first | (simp; done) | (simp; omega) | omega)))
    have K : Blk W w.heap.size 26 (vCells 0 0 ⟨#[]⟩ none 0 0 none 0 0) := by subst hW; (repeat' (first | with_reducible exact Blk.new_ (by first | rfl | (simp; done) | (simp; omega)) | with_reducible refine Blk.alloc_ ?_ | with_reducible refine Blk.drew ?_ | with_reducible refine Blk.drewN ?_ _ | with_reducible refine Blk.far_ ?_ (by first | (simp; done) | (simp; omega) | omega) | with_reducible apply Blk.set_eq | rfl))
    clear hW
    refine (cC.out W C1.bel).mono ?_
    rintro e w1 ⟨rfl, hb1⟩
    have C2 := C1.trans (Chg.of_below (S := []) hb1) (by simp)
    have K1 := K.chg (Chg.of_below (S := []) hb1) (by simp)
    have HK := hide K1
    have HC := hide C2
    have k0 := K1.cell 0; have k1 := K1.cell 1; have k2 := K1.cell 2; have k3 := K1.cell 3; have k4 := K1.cell 4; simp at k0 k1 k2 k3 k4
    have z0 := K1.frozen 0; have z1 := K1.frozen 1; have z2 := K1.frozen 2; have z3 := K1.frozen 3; have z4 := K1.frozen 4
    have l2 := K1.lt
    clear K C1 hb1 C2 K1
    go_wp2_with fail
    refine name_postO fun W hW => ?_
    have C4 : Chg [w.heap.size] w1 W := by subst hW; (repeat' (first | with_reducible exact Chg.refl _ _ | with_reducible refine Chg.alloc ?_ _ | with_reducible refine Chg.drew ?_ | with_reducible refine Chg.drewN ?_ _ | with_reducible refine Chg.set_ ?_ _ _ (by first | (simp; done) | (simp; omega) | omega)))
    have K3 : Blk W w.heap.size 26 (vCells 0 0 ⟨#[]⟩ none 0 0 none 0 0) := by subst hW; (repeat' (first | with_reducible exact HK.out | with_reducible exact Blk.new_ (by first | rfl | (simp; done) | (simp; omega)) | with_reducible refine Blk.alloc_ ?_ | with_reducible refine Blk.drew ?_ | with_reducible refine Blk.drewN ?_ _ | with_reducible refine Blk.far_ ?_ (by first | (simp; done) | (simp; omega) | omega) | with_reducible apply Blk.set_eq | rfl))
    clear k0 k1 k2 k3 k4 z0 z1 z2 z3 z4
    have k0 := K3.cell 0; have k1 := K3.cell 1; have k2 := K3.cell 2; have k3 := K3.cell 3; have k4 := K3.cell 4; simp at k0 k1 k2 k3 k4
    clear hW K3
    have hbel := ((HC.out.mono (S' := [w.heap.size]) (by simp)).trans C4 (by simp) |>.mono (S' := []) (by intro x hx; simp at hx; subst hx; exact .inr (Nat.le_refl _))).bel
    (try simp only [Exit.inBlock, Exit.then])
    refine bodyPost_ret (v := .tuple #[.agg (vCells 0 0 ⟨#[]⟩ none 0 0 none 0 0), .bool false]) ?_ rfl ⟨_, _, _, _, rfl, hbel⟩
    simp [results, Tryz.results88, go_sem, k0, k1, k2, k3, k4]
  | true =>
    have cP := hide (cP.out hc)
    have hv : valueP l = (pipeFrom envO l none).1 := by unfold valueP; rw [hc, if_pos rfl, show pipeR envO l = pipeFrom envO l none by simp [pipeR, pipe_ne hok]]
    rw [hv]
    simp only [hc] at cC
    obtain ⟨r, hr⟩ : ∃ r, pipeFrom envO l none = r := ⟨_, rfl⟩
    rw [hr] at hfine ⊢
    simp only [hr] at cP
    have hz : (r.2 == 0) = r.1.isSome := by
      rcases hfine with ⟨d, e1, _⟩ | ⟨f, e1, hf⟩
      · rw [e1]; rfl
      · rw [e1]; simpa using hf
    have HZ := hide hz
    have cQ : Hid (∀ W, Below w.heap.size w W → Calls Tryz.prog 103 #[envZ, .slice a m c] W (ToldF W (dK r.1) (dI r.1) (dS r.1) r.2)) := cP
    obtain ⟨k, hk⟩ : ∃ q, dK r.1 = q := ⟨_, rfl⟩
    obtain ⟨i, hi⟩ : ∃ q, dI r.1 = q := ⟨_, rfl⟩
    obtain ⟨s, hs⟩ : ∃ q, dS r.1 = q := ⟨_, rfl⟩
    unfold ToldV
    obtain ⟨E, hE⟩ : ∃ q, r.2 = q := ⟨_, rfl⟩
    simp only [hk, hi, hs, hE] at cQ HZ ⊢
    obtain ⟨is, his⟩ : ∃ b, r.1.isSome = b := ⟨_, rfl⟩
    rw [his] at HZ ⊢
    have hzz := HZ.out
    clear cP hv hfine hz hr hk hi hs hE his h hm hn hok hmm hc
    go_enter Tryz.func88, Tryz.ntmps88
    go_wp2_with fail
    refine name_world fun W hW => ?_
    have C1 : Chg [] w W := by subst hW; (repeat' (first | with_reducible exact Chg.refl _ _ | with_reducible refine Chg.alloc ?_ _ | with_reducible refine Chg.drew ?_ | with_reducible refine Chg.drewN ?_ _ | with_reducible refine Chg.set_ ?_ _ _ (by first | (simp; done) | (simp; omega) | omega)))
    have K : Blk W w.heap.size 26 (vCells 0 0 ⟨#[]⟩ none 0 0 none 0 0) := by subst hW; (repeat' (first | with_reducible exact Blk.new_ (by first | rfl | (simp; done) | (simp; omega)) | with_reducible refine Blk.alloc_ ?_ | with_reducible refine Blk.drew ?_ | with_reducible refine Blk.drewN ?_ _ | with_reducible refine Blk.far_ ?_ (by first | (simp; done) | (simp; omega) | omega) | with_reducible apply Blk.set_eq | rfl))
    clear hW
    refine (cC.out W C1.bel).mono ?_
    rintro e w1 ⟨rfl, hb1⟩
    have C2 := C1.trans (Chg.of_below (S := []) hb1) (by simp)
    have K1 := K.chg (Chg.of_below (S := []) hb1) (by simp)
    clear K C1 hb1
    go_wp2_with fail
    refine (cQ.out w1 C2.bel).mono ?_
    rintro e w2 ⟨p, q, p2, q2, rfl, hb2⟩
    have C3 := hide (C2.trans (Chg.of_below (S := []) hb2) (by simp))
    have K2 := K1.chg (Chg.of_below (S := []) hb2) (by simp)
    have HK := hide K2
    have k0 := K2.cell 0; have k1 := K2.cell 1; have k2 := K2.cell 2; have k3 := K2.cell 3; have k4 := K2.cell 4; simp at k0 k1 k2 k3 k4
    have z0 := K2.frozen 0; have z1 := K2.frozen 1; have z2 := K2.frozen 2; have z3 := K2.frozen 3; have z4 := K2.frozen 4
    have l2 := K2.lt
    clear K1 K2 C2 hb2
    go_wp2_with fail
    refine name_postO fun W hW => ?_
    have C4 : Chg [w.heap.size] w2 W := by subst hW; (repeat' (first | with_reducible exact Chg.refl _ _ | with_reducible refine Chg.alloc ?_ _ | with_reducible refine Chg.drew ?_ | with_reducible refine Chg.drewN ?_ _ | with_reducible refine Chg.set_ ?_ _ _ (by first | (simp; done) | (simp; omega) | omega)))
    have K3 : Blk W w.heap.size 26 (vCells k i s p 0 q p2 0 q2) := by subst hW; (repeat' (first | with_reducible exact HK.out | with_reducible exact Blk.new_ (by first | rfl | (simp; done) | (simp; omega)) | with_reducible refine Blk.alloc_ ?_ | with_reducible refine Blk.drew ?_ | with_reducible refine Blk.drewN ?_ _ | with_reducible refine Blk.far_ ?_ (by first | (simp; done) | (simp; omega) | omega) | with_reducible apply Blk.set_eq | rfl))
    clear k0 k1 k2 k3 k4 z0 z1 z2 z3 z4
    have k0 := K3.cell 0; have k1 := K3.cell 1; have k2 := K3.cell 2; have k3 := K3.cell 3; have k4 := K3.cell 4; simp at k0 k1 k2 k3 k4
    clear hW K3
    have hbel := ((C3.out.mono (S' := [w.heap.size]) (by simp)).trans C4 (by simp) |>.mono (S' := []) (by intro x hx; simp at hx; subst hx; exact .inr (Nat.le_refl _))).bel
    (try simp only [Exit.inBlock, Exit.then])
    refine bodyPost_ret (v := .tuple #[.agg (vCells k i s p 0 q p2 0 q2), .bool is]) ?_ rfl ⟨_, _, _, _, rfl, hbel⟩
    simp [results, Tryz.results88, go_sem, k0, k1, k2, k3, k4, hzz]
    try exact hzz
/-- May a value be told by a filter? -/
def tellP (esc : Int) (o : Option (VD 0)) : Bool := match o with | some d => applyOk esc d | none => false
/-- What fold.told gives: nodes and whether they stand for the node. -/
def ToldN (w : World) (ok : Bool) (pos : Int) (e : Ending) (w' : World) : Prop :=
  if ok then ∃ t : List UInt8, t.length ≤ 1000000 ∧ ((t = [] ∧ e = .returned (.tuple #[.slice none 0 0, .bool true])) ∨ (t ≠ [] ∧ ∃ g, e = .returned (.tuple #[.slice (some ⟨g, 0, none⟩) 1 1, .bool true]) ∧ w.heap.size ≤ g ∧ Blk w' g 61 ⟨nodeCells 1 ⟨t.toArray⟩ ⟨#[]⟩ none 0 0 none 0 0 none 0 0 pos 0 0⟩)) ∧ Below w.heap.size w w'
  else e = .returned (.tuple #[.slice none 0 0, .bool false]) ∧ Below w.heap.size w w'
theorem value_fine {l : List CallD} {d : VD 0} (hok : pipeOk l = true) (hm : sumBy massC l ≤ 1048576) (hn : ∀ x ∈ l, numC x) (h : valueP l = some d) : FineF d := by
  refine ⟨value_flat h, ?_⟩
  have hfine : FineR (pipeR envO l) := pipe_fine ⟨good_null, good_null, fun x hx => by cases hx⟩ (goods hm hn)
  unfold valueP at h
  split at h
  · rcases hfine with ⟨d2, e1, g⟩ | ⟨f, e1, _⟩
    · rw [e1] at h
      injection h with h
      rw [← h]; exact g
    · rw [e1] at h
      cases h
  · cases h
set_option maxHeartbeats 2000000 in
set_option maxRecDepth 100000 in
theorem ogToldN (U : World → Nat → Prop) (hU : Lasts U) (k : Int) (s nm : ByteArray) (a1 a2 a3 : Option Addr) (c1 n2 c2 n3 c3 : Nat) (pos esc unit : Int) (l : List CallD) (w : World) (h : AtR CallR 2 U w a1 l) (hm : sumBy massC l ≤ 1048576) (hn : ∀ x ∈ l, numC x) (hok : pipeOk l = true) (hV : Vars w) :
    Calls Tryz.prog 65 #[.agg ⟨nodeCells k s nm a1 l.length c1 a2 n2 c2 a3 n3 c3 pos esc unit⟩] w (ToldN w (tellP esc (valueP l)) pos) := by
  have cV := hide (fun W (hb : Below w.heap.size w W) => ogValue U hU a1 c1 l W (h.on CallR.steady (hU.stays hb)) hm hn hok)
  have HV := hide hV
  have HF := hide (fun d (hd : valueP l = some d) => value_fine hok hm hn hd)
  obtain ⟨n1, hn1⟩ : ∃ m, l.length = m := ⟨_, rfl⟩
  simp only [hn1] at cV ⊢
  obtain ⟨o, ho⟩ : ∃ o, valueP l = o := ⟨_, rfl⟩
  simp only [ho] at cV HF ⊢
  clear h hm hn hok hV hn1 ho
  cases o with
  | none =>
    have cV1 : Hid (∀ W, Below w.heap.size w W → Calls Tryz.prog 88 #[.slice a1 n1 c1] W fun e w' => ∃ p c p2 c2, e = .returned (.tuple #[.agg (vCells 0 0 ⟨#[]⟩ p 0 c p2 0 c2), .bool false]) ∧ Below W.heap.size W w') := cV
    show Calls Tryz.prog 65 _ w fun e w' => e = .returned (.tuple #[.slice none 0 0, .bool false]) ∧ Below w.heap.size w w'
    clear cV HF
    go_enter Tryz.func65, Tryz.ntmps65
    go_wp2_with fail
    refine name_world fun W hW => ?_
    have C1 : Chg [] w W := by subst hW; (repeat' (first | with_reducible exact Chg.refl _ _ | with_reducible refine Chg.alloc ?_ _ | with_reducible refine Chg.drew ?_ | with_reducible refine Chg.drewN ?_ _ | with_reducible refine Chg.set_ ?_ _ _ (by first | (simp; done) | (simp; omega) | omega)))
    clear hW
    refine (cV1.out W C1.bel).mono ?_
    rintro e w1 ⟨p, q, p2, q2, rfl, hb1⟩
    have C2 := hide (C1.below hb1)
    clear C1 hb1
    go_wp2_with fail
    go_ret2
    refine ⟨rfl, ?_⟩
    exact name_it (C := fun W => Below w.heap.size w W) fun W hW => by
      have C3 : Chg [] w1 W := by subst hW; (repeat' (first | with_reducible exact Chg.refl _ _ | with_reducible refine Chg.alloc ?_ _ | with_reducible refine Chg.drew ?_ | with_reducible refine Chg.drewN ?_ _ | with_reducible refine Chg.set_ ?_ _ _ (by first | (simp; done) | (simp; omega) | omega)))
      exact (C2.out.trans C3 (by simp)).bel
  | some d =>
    have hf := HF.out d rfl
    have cA := hide (fun (P P2 : Option Addr) (C C2 : Nat) W (hb : Below w.heap.size w W) => ogApply hf esc P C P2 C2 W (HV.out.below hb))
    have cV1 : Hid (∀ W, Below w.heap.size w W → Calls Tryz.prog 88 #[.slice a1 n1 c1] W fun e w' => ∃ p c p2 c2, e = .returned (.tuple #[.agg (vCells d.k d.i ⟨d.s.toArray⟩ p 0 c p2 0 c2), .bool true]) ∧ Below W.heap.size W w') := cV
    show Calls Tryz.prog 65 _ w (ToldN w (applyOk esc d) pos)
    obtain ⟨ok, hok⟩ : ∃ b, applyOk esc d = b := ⟨_, rfl⟩
    simp only [hok] at cA ⊢
    obtain ⟨dk, hdk⟩ : ∃ q, d.k = q := ⟨_, rfl⟩
    obtain ⟨di, hdi⟩ : ∃ q, d.i = q := ⟨_, rfl⟩
    obtain ⟨ds, hds⟩ : ∃ q : ByteArray, (⟨d.s.toArray⟩ : ByteArray) = q := ⟨_, rfl⟩
    simp only [hdk, hdi, hds] at cA cV1
    clear cV HF hf hok hdk hdi hds
    go_enter Tryz.func65, Tryz.ntmps65
    go_wp2_with fail
    refine name_world fun W hW => ?_
    have C1 : Chg [] w W := by subst hW; (repeat' (first | with_reducible exact Chg.refl _ _ | with_reducible refine Chg.alloc ?_ _ | with_reducible refine Chg.drew ?_ | with_reducible refine Chg.drewN ?_ _ | with_reducible refine Chg.set_ ?_ _ _ (by first | (simp; done) | (simp; omega) | omega)))
    have K : Blk W w.heap.size 61 ⟨nodeCells k s nm a1 n1 c1 a2 n2 c2 a3 n3 c3 pos esc unit⟩ := by subst hW; (repeat' (first | with_reducible exact Blk.new_ (by first | rfl | (simp; done) | (simp; omega)) | with_reducible refine Blk.alloc_ ?_ | with_reducible refine Blk.drew ?_ | with_reducible refine Blk.drewN ?_ _ | with_reducible refine Blk.far_ ?_ (by first | (simp; done) | (simp; omega) | omega) | with_reducible apply Blk.set_eq | rfl))
    clear hW
    refine (cV1.out W C1.bel).mono ?_
    rintro e w1 ⟨p, q, p2, q2, rfl, hb1⟩
    have C2 := C1.trans (Chg.of_below (S := []) hb1) (by simp)
    have K1 := K.chg (Chg.of_below (S := []) hb1) (by simp)
    have k7 := K1.cell 7; simp at k7
    have l1 := K1.lt
    clear K C1 hb1
    go_wp2_with fail
    refine name_world fun W hW => ?_
    have C3 : Chg [] w1 W := by subst hW; (repeat' (first | with_reducible exact Chg.refl _ _ | with_reducible refine Chg.alloc ?_ _ | with_reducible refine Chg.drew ?_ | with_reducible refine Chg.drewN ?_ _ | with_reducible refine Chg.set_ ?_ _ _ (by first | (simp; done) | (simp; omega) | omega)))
    have C4 := C2.trans C3 (by simp)
    have K2 := K1.chg C3 (by simp)
    clear hW K1 C2 C3 k7 l1
    refine (cA.out p p2 q q2 W C4.bel).mono ?_
    rintro e w2 ⟨t, f, rfl, hif, hb2⟩
    have C5 := C4.trans (Chg.of_below (S := []) hb2) (by simp)
    have K3 := K2.chg (Chg.of_below (S := []) hb2) (by simp)
    have k6 := K3.cell 6; simp at k6
    have l3 := K3.lt
    have HC5 := hide C5
    have HK3 := hide K3
    clear K2 C4 hb2 C5 K3
    cases ok with
    | false =>
      have hf0 : ¬ f = 0 := by simpa using hif
      have eE : (f == 0) = false := by simpa using hf0
      clear hif hf0
      go_wp2_with fail
      go_ret2
      exact ⟨rfl, HC5.out.bel⟩
    | true =>
      obtain ⟨hf0, htl⟩ : f = 0 ∧ t.length ≤ 1000000 := by simpa using hif
      subst hf0
      have HTL := hide htl
      clear hif htl
      by_cases ht : t = []
      · subst ht
        go_wp2_with fail
        go_ret2
        exact ⟨[], by simp, .inl ⟨rfl, rfl⟩, HC5.out.bel⟩
      · have z0 : (⟨t.toArray⟩ : ByteArray).toList = t := str_listF t
        obtain ⟨T, hT⟩ : ∃ T : ByteArray, (⟨t.toArray⟩ : ByteArray) = T := ⟨_, rfl⟩
        rw [hT] at z0 ⊢
        have z1 : T.toList.isEmpty = false := by rw [z0]; cases t with | nil => exact absurd rfl ht | cons a b => rfl
        have z2 : (T.toList == []) = false := by rw [z0]; simpa using ht
        have HTT := hide hT
        have HTN := hide ht
        clear z0 ht hT
        go_wp2_with fail
        go_ret2
        have hs := HC5.out.size
        refine ⟨t, HTL.out, .inr ⟨HTN.out, _, rfl, hs, ?_⟩, (Chg.alloc HC5.out _).bel⟩
        rw [HTT.out]
        exact (by (repeat' (first | with_reducible exact Blk.new_ (by first | rfl | (simp; done) | (simp; omega)) | with_reducible refine Blk.alloc_ ?_ | with_reducible refine Blk.drew ?_ | with_reducible refine Blk.drewN ?_ _ | with_reducible refine Blk.far_ ?_ (by first | (simp; done) | (simp; omega) | omega) | with_reducible apply Blk.set_eq | rfl)))
theorem kindN_shape {n : Nat} {U : World → Nat → Prop} {w : World} {vs : List Value} {x : NT n} (h : NodeR n U w vs x) : ∃ s nm a1 n1 c1 a2 n2 c2 a3 n3 c3 pos esc unit, vs = nodeCells (kindN n x) s nm a1 n1 c1 a2 n2 c2 a3 n3 c3 pos esc unit := by
  cases n with
  | zero => exact x.elim
  | succ n =>
    obtain ⟨a1, c1, a2, c2, a3, c3, h1, _⟩ := h
    exact ⟨_, _, a1, _, c1, a2, _, c2, a3, _, c3, _, _, _, h1⟩
set_option maxHeartbeats 1000000 in
set_option maxRecDepth 100000 in
theorem ogVar (k pos esc unit : Int) (s nm : ByteArray) (a1 : Option Addr) (n1 c1 : Nat) (a2 : Option Addr) (n2 c2 : Nat) (a3 : Option Addr) (n3 c3 : Nat) (w : World) :
    Calls Tryz.prog 91 #[.agg ⟨nodeCells k s nm a1 n1 c1 a2 n2 c2 a3 n3 c3 pos esc unit⟩] w fun e w' => e = .returned (.bool (decide (k = 7))) ∧ Below w.heap.size w w' := by
  have hk : (k == 7) = decide (k = 7) := rfl
  go_enter Tryz.func91, Tryz.ntmps91
  go_wp2_with fail
  go_ret
  refine ⟨by first | rfl | simp, ?_⟩
  refine name_it (C := fun W => Below w.heap.size w W) fun W hW => ?_
  have C1 : Chg [] w W := by subst hW; (repeat' (first | with_reducible exact Chg.refl _ _ | with_reducible refine Chg.alloc ?_ _ | with_reducible refine Chg.drew ?_ | with_reducible refine Chg.drewN ?_ _ | with_reducible refine Chg.set_ ?_ _ _ (by first | (simp; done) | (simp; omega) | omega)))
  exact C1.bel
set_option maxRecDepth 100000 in
theorem varC (n : Nat) (U : World → Nat → Prop) (hU : Lasts U) (l : List (NT n)) (a : Option Addr) (c : Nat) (w : World) (h : AtR (NodeR n) 9 U w a l) (hlen : l.length ≤ 1048576) :
    Calls Tryz.prog 50 #[.slice a l.length c, .func (.func 91) #[] #[]] w fun e w' => e = .returned (.bool (l.any fun y => decide (kindN n y = 7))) ∧ Below w.heap.size w w' :=
  containsFuncN n 91 #[] (fun _ _ => rfl) U hU (fun y => decide (kindN n y = 7)) l a c w (fun W' vs y hb' hy hR => by
    obtain ⟨s, nm, a1, n1, c1, a2, n2, c2, a3, n3, c3, pos, esc, unit, rfl⟩ := kindN_shape hR
    exact ogVar _ _ _ _ _ _ _ _ _ _ _ _ _ _ _ W') h hlen
/-- What fold.picked gives. -/
def pickB (o : Option (VD 0)) : Bool := match o with | some d => isTrue d | none => false
set_option maxHeartbeats 2000000 in
set_option maxRecDepth 100000 in
theorem ogPickN (n : Nat) (U : World → Nat → Prop) (hU : Lasts U) (k : Int) (s nm : ByteArray) (a1 a2 a3 : Option Addr) (c1 c2 c3 : Nat) (pos esc unit : Int) (l : List CallD) (body els : List (NT n)) (w : World) (h : AtR CallR 2 U w a1 l) (hb : AtR (NodeR n) 9 U w a2 body) (he : AtR (NodeR n) 9 U w a3 els) (hbl : body.length ≤ 1048576) (hel : els.length ≤ 1048576) (hm : sumBy massC l ≤ 1048576) (hn : ∀ x ∈ l, numC x) (hok : pipeOk l = true) :
    Calls Tryz.prog 66 #[.agg ⟨nodeCells k s nm a1 l.length c1 a2 body.length c2 a3 els.length c3 pos esc unit⟩] w fun e w' => e = .returned (.tuple #[if pickB (valueP l) then .slice a2 body.length c2 else .slice a3 els.length c3, .bool ((valueP l).isSome && !((if pickB (valueP l) then body else els).any fun y => decide (kindN n y = 7)))]) ∧ Below w.heap.size w w' := by
  have cV := hide (fun W (hb : Below w.heap.size w W) => ogValue U hU a1 c1 l W (h.on CallR.steady (hU.stays hb)) hm hn hok)
  have cB := hide (fun W (hw : Below w.heap.size w W) => varC n U hU body a2 c2 W (hb.on (NodeR.steady n) (hU.stays hw)) hbl)
  have cE := hide (fun W (hw : Below w.heap.size w W) => varC n U hU els a3 c3 W (he.on (NodeR.steady n) (hU.stays hw)) hel)
  obtain ⟨o, ho⟩ : ∃ o, valueP l = o := ⟨_, rfl⟩
  obtain ⟨n1, hn1⟩ : ∃ m, l.length = m := ⟨_, rfl⟩
  obtain ⟨n2, hn2⟩ : ∃ m, body.length = m := ⟨_, rfl⟩
  obtain ⟨n3, hn3⟩ : ∃ m, els.length = m := ⟨_, rfl⟩
  simp only [ho, hn1, hn2, hn3] at cV cB cE ⊢
  obtain ⟨vb, hvb⟩ : ∃ b, (body.any fun y => decide (kindN n y = 7)) = b := ⟨_, rfl⟩
  obtain ⟨ve, hve⟩ : ∃ b, (els.any fun y => decide (kindN n y = 7)) = b := ⟨_, rfl⟩
  simp only [hvb] at cB
  simp only [hve] at cE
  have hres : ((if pickB o then body else els).any fun y => decide (kindN n y = 7)) = if pickB o then vb else ve := by split <;> assumption
  rw [hres]
  have hT : truthC (dK o) (dI o) (dS o) 0 = pickB o := by
    cases o with
    | none => rfl
    | some d => exact (isTrue_flat d).symm
  have cT := hide (fun (P P2 : Option Addr) (C C2 : Nat) W => ogValTruth (dK o) (dI o) (dS o) P 0 C P2 0 C2 W)
  simp only [hT] at cT
  obtain ⟨dk, hdk⟩ : ∃ q, dK o = q := ⟨_, rfl⟩
  obtain ⟨di, hdi⟩ : ∃ q, dI o = q := ⟨_, rfl⟩
  obtain ⟨ds, hds⟩ : ∃ q, dS o = q := ⟨_, rfl⟩
  unfold ToldV at cV
  simp only [hdk, hdi, hds] at cV cT
  obtain ⟨is, his⟩ : ∃ b, o.isSome = b := ⟨_, rfl⟩
  obtain ⟨pb, hpb⟩ : ∃ b, pickB o = b := ⟨_, rfl⟩
  simp only [his, hpb] at cV cT ⊢
  clear h hb he hbl hel hm hn hok ho hn1 hn2 hn3 hvb hve hres hT hdk hdi hds his hpb
  cases is <;> cases pb
  all_goals
    go_enter Tryz.func66, Tryz.ntmps66
    go_wp2_with fail
    refine name_world fun W hW => ?_
    have C1 : Chg [] w W := by subst hW; (repeat' (first | with_reducible exact Chg.refl _ _ | with_reducible refine Chg.alloc ?_ _ | with_reducible refine Chg.drew ?_ | with_reducible refine Chg.drewN ?_ _ | with_reducible refine Chg.set_ ?_ _ _ (by first | (simp; done) | (simp; omega) | omega)))
    have K : Blk W w.heap.size 61 ⟨nodeCells k s nm a1 n1 c1 a2 n2 c2 a3 n3 c3 pos esc unit⟩ := by subst hW; (repeat' (first | with_reducible exact Blk.new_ (by first | rfl | (simp; done) | (simp; omega)) | with_reducible refine Blk.alloc_ ?_ | with_reducible refine Blk.drew ?_ | with_reducible refine Blk.drewN ?_ _ | with_reducible refine Blk.far_ ?_ (by first | (simp; done) | (simp; omega) | omega) | with_reducible apply Blk.set_eq | rfl))
    clear hW
    refine (cV.out W C1.bel).mono ?_
    rintro e w1 ⟨p, q, p2, q2, rfl, hb1⟩
    have C2 := C1.trans (Chg.of_below (S := []) hb1) (by simp)
    have K1 := K.chg (Chg.of_below (S := []) hb1) (by simp)
    have k4 := K1.cell 4; have k5 := K1.cell 5; simp at k4 k5
    have l1 := K1.lt
    clear K C1 hb1
    go_wp2_with fail
    refine name_world fun W hW => ?_
    have C3 : Chg [] w1 W := by subst hW; (repeat' (first | with_reducible exact Chg.refl _ _ | with_reducible refine Chg.alloc ?_ _ | with_reducible refine Chg.drew ?_ | with_reducible refine Chg.drewN ?_ _ | with_reducible refine Chg.set_ ?_ _ _ (by first | (simp; done) | (simp; omega) | omega)))
    have C4 := C2.trans C3 (by simp)
    have K2 := K1.chg C3 (by simp)
    clear hW K1 C2 C3 k4 k5 l1
    refine (cT.out p p2 q q2 W).mono ?_
    rintro e w2 ⟨rfl, hb2⟩
    have C5 := C4.trans (Chg.of_below (S := []) hb2) (by simp)
    have K3 := K2.chg (Chg.of_below (S := []) hb2) (by simp)
    have k4 := K3.cell 4; have k5 := K3.cell 5; simp at k4 k5
    have l3 := K3.lt
    clear K2 C4 hb2 K3
    have HC5 := hide C5
    first
      | (go_wp2_with fail
         go_ret2
         exact ⟨rfl, HC5.out.bel⟩)
      | (go_wp2_with fail
         refine (cB.out _ C5.bel).mono ?_
         rintro e w3 ⟨rfl, hb3⟩
         have HC6 := hide (HC5.out.below hb3)
         clear hb3 C5
         go_wp2_with fail
         go_ret2
         exact ⟨by simp, HC6.out.bel⟩)
      | (go_wp2_with fail
         refine (cE.out _ C5.bel).mono ?_
         rintro e w3 ⟨rfl, hb3⟩
         have HC6 := hide (HC5.out.below hb3)
         clear hb3 C5
         go_wp2_with fail
         go_ret2
         exact ⟨by simp, HC6.out.bel⟩)
end Go.Proofs.YtnepogddjinpoaaGreatDoor

namespace Go.Proofs.YtnepogddjinpoaaGreatDoor
open Go.RowKit
set_option linter.unusedVariables false
set_option linter.unusedSimpArgs false

abbrev BB : Nat := 1000000
/-- A list as it is told: nil, or at a block's begin. -/
def HeadOk (A : Option Addr) (c m : Nat) : Prop := (A = none ∧ c = 0 ∧ m = 0) ∨ ∃ g, A = some ⟨g, 0, none⟩
/-- What fold.nodes gives. -/
def NodesTo (n N : Nat) (X : Nat → Prop) (w : World) (l : List (NT n)) (e : Ending) (w' : World) : Prop :=
  ∃ A c out, e = .returned (.slice A out.length c) ∧ FoldsTo BB n l out ∧ AtR (NodeR n) 9 (HB N X) w' A out ∧ HeadOk A c out.length ∧ Below w.heap.size w w'
/-- What fold.node gives. -/
def NodeTo2 (n N : Nat) (X : Nat → Prop) (w : World) (x : NN (NT n)) (e : Ending) (w' : World) : Prop :=
  ∃ A c o b f, e = .returned (.slice A (List.length o) c) ∧ FoldsTo BB n x.body b ∧ FoldsTo BB n x.els f ∧ NodeF BB n { x with body := b, els := f } o ∧ AtR (NodeR (n + 1)) 9 (HB N X) w' A o ∧ HeadOk A c (List.length o) ∧ Below w.heap.size w w'
/-- That fold.nodes does it. -/
def NodesC (n : Nat) (u : Int) : Prop := ∀ (N : Nat) (X : Nat → Prop) (a : Option Addr) (c : Nat) (l : List (NT n)) (w : World), N ≤ w.heap.size → (∀ b, w.heap.size ≤ b → X b) → AtR (NodeR n) 9 (HB N X) w a l → sumBy (bareN n) l ≤ 1048576 → sumBy (textsN n) l ≤ 10000000000000 → (∀ y ∈ l, numN n y) → (∀ y ∈ l, mayN u n y = true) → Vars w →
  Calls Tryz.prog 31 #[.slice a l.length c] w (NodesTo n N X w l)
theorem folds_len {n : Nat} {l out : List (NT n)} (h : FoldsTo BB n l out) (hb : sumBy (bareN n) l ≤ 1048576) : out.length ≤ 1048576 := by
  have h1 := folds_bare BB n l out h
  cases n with
  | zero => cases out with | nil => simp | cons x _ => exact x.elim
  | succ n =>
    have h2 := sumBy_len (bareN (n + 1)) bareN_pos out
    omega
/-- What a node whose lists are folded is. -/
theorem node_cases {n : Nat} (x : NN (NT n)) (b f : List (NT n)) :
    (x.k = 2 ∧ tellP x.esc (valueP x.pipe) = tellsN ({ x with body := b, els := f } : NN (NT n))) ∨ (x.k ≠ 2 ∧ tellsN ({ x with body := b, els := f } : NN (NT n)) = false) := by
  by_cases h : x.k = 2
  · refine .inl ⟨h, ?_⟩
    unfold tellsN tellP
    show _ = (decide (x.k = 2) && _)
    rw [decide_eq_true h, Bool.true_and]
    cases valueP x.pipe <;> rfl
  · refine .inr ⟨h, ?_⟩
    unfold tellsN
    show (decide (x.k = 2) && _) = false
    rw [decide_eq_false h, Bool.false_and]
theorem pick_is {n : Nat} (x : NN (NT n)) (b f : List (NT n)) (h : x.k = 3) :
    pickP (kindN n) ({ x with body := b, els := f } : NN (NT n)) = if (valueP x.pipe).isSome && !((if pickB (valueP x.pipe) then b else f).any fun y => decide (kindN n y = 7)) then some (if pickB (valueP x.pipe) then b else f) else none := by
  unfold pickP
  show (if x.k = 3 then (match valueP x.pipe with | some d => pickL (kindN n) (if isTrue d then b else f) | none => none) else none) = _
  rw [if_pos h]
  cases hv : valueP x.pipe with
  | none => rfl
  | some d =>
    show pickL (kindN n) (if isTrue d then b else f) = if (true && !((if isTrue d then b else f).any fun y => decide (kindN n y = 7))) then some (if isTrue d then b else f) else none
    unfold pickL
    cases ha : (if isTrue d then b else f).any fun y => decide (kindN n y = 7) with
    | true => rfl
    | false => rfl
theorem pick_not {n : Nat} (x : NN (NT n)) (b f : List (NT n)) (h : x.k ≠ 3) : pickP (kindN n) ({ x with body := b, els := f } : NN (NT n)) = none := by
  unfold pickP
  show (if x.k = 3 then _ else none) = none
  rw [if_neg h]
end Go.Proofs.YtnepogddjinpoaaGreatDoor

namespace Go.Proofs.YtnepogddjinpoaaGreatDoor
open Go.RowKit
set_option linter.unusedVariables false
set_option linter.unusedSimpArgs false

theorem may_pipe {n : Nat} {u : Int} {x : NN (NT n)} (h : mayN u (n + 1) x = true) (hk : x.k = 2 ∨ x.k = 3) : pipeOk x.pipe = true := by
  have h1 : (headMay (α := NT n) u x && x.body.all (mayN u n) && x.els.all (mayN u n)) = true := h
  simp only [Bool.and_eq_true] at h1
  have h2 := h1.1.1
  unfold headMay at h2
  simp only [Bool.and_eq_true] at h2
  have h3 := h2.2
  have e1 : decide (x.k = 1) = false := decide_eq_false (by rcases hk with h | h <;> omega)
  have e6 : decide (x.k = 6) = false := decide_eq_false (by rcases hk with h | h <;> omega)
  rw [e1, e6] at h3
  simpa using h3
theorem at_oneF {α : Type} {R : Rel α} {size : Nat} {U : World → Nat → Prop} {w : World} {g : Nat} {vs : List Value} {x : α} (h : AtB w g vs) (hU : U w g) (hl : vs.length = size) (hR : R U w vs x) : AtR R size U w (some ⟨g, 0, none⟩) [x] := by
  intro j y hy
  cases j with
  | zero =>
    simp at hy
    subst hy
    exact ⟨g, 0, vs, rfl, h.lt, hU, hl, fun t u ht => by simp only [Nat.zero_mul, Nat.zero_add]; exact h.cell t u ht, hR⟩
  | succ j => simp at hy
theorem name_then {Q : Exit → Act → World → Prop} {x : Exit} {a : Act} {w : World} (h : ∀ W, w = W → Q x a W) : Q x a w := h w rfl
theorem stays_box {N : Nat} {X : Nat → Prop} {g : Nat} {w w' : World} (hc : Chg [g] w w') : Stays (HB N (fun b => X b ∧ b ≠ g)) (HB N X) w w' := by
  refine ⟨hc.size, ?_⟩
  rintro b h1 ⟨⟨h2, cs, t, h3⟩, h4, h5⟩
  have h6 := hc.block b h1 (by simpa using h5)
  exact ⟨h6, ⟨h2, cs, t, h6.trans h3⟩, h4⟩
theorem stays_H {N : Nat} {X Y : Nat → Prop} {w w' : World} (hb : Below w.heap.size w w') (hXY : ∀ b, b < w.heap.size → X b → Y b) : Stays (HB N X) (HB N Y) w w' := by
  refine ⟨hb.size, ?_⟩
  rintro b h1 ⟨⟨h2, cs, t, h3⟩, h4⟩
  have h6 := hb.block b h1
  exact ⟨h6, ⟨h2, cs, t, h6.trans h3⟩, hXY b h1 h4⟩
set_option maxHeartbeats 8000000 in
set_option maxRecDepth 100000 in
theorem node_any (n : Nat) (u : Int) (hC : NodesC n u) (N : Nat) (X : Nat → Prop) (vs : List Value) (x : NN (NT n)) (w : World) (hN : N ≤ w.heap.size) (hX : ∀ b, w.heap.size ≤ b → X b) (h : NodeR (n + 1) (HB N X) w vs x) (hm : bareN (n + 1) x ≤ 1048576) (ht : textsN (n + 1) x ≤ 10000000000000) (hnum : numN (n + 1) x) (hmay : mayN u (n + 1) x = true) (hV : Vars w) :
    Calls Tryz.prog 53 #[.agg ⟨vs⟩] w (NodeTo2 n N X w x) := by
  obtain ⟨a1, c1, a2, c2, a3, c3, rfl, q1, q2, q3⟩ := NodeR.parts h
  have HMAY := hide (fun hk => may_pipe hmay hk)
  have hmm : (headMay (α := NT n) u x && x.body.all (mayN u n) && x.els.all (mayN u n)) = true := hmay
  simp only [Bool.and_eq_true, List.all_eq_true] at hmm
  obtain ⟨k, s, nm, pipe, body, els, pos, esc, unit⟩ := x
  have hm' : 1 + nm.length + sumBy massC pipe + sumBy (bareN n) body + sumBy (bareN n) els ≤ 1048576 := hm
  have ht' : s.length + sumBy (textsN n) body + sumBy (textsN n) els ≤ 10000000000000 := ht
  obtain ⟨hnp, hnb, hne⟩ : (∀ c ∈ pipe, numC c) ∧ (∀ y ∈ body, numN n y) ∧ (∀ y ∈ els, numN n y) := hnum
  simp only at q1 q2 q3 hmm HMAY ⊢
  have HV := hide hV
  have hXb : ∀ W : World, w.heap.size + 1 ≤ W.heap.size → ∀ b, W.heap.size ≤ b → X b ∧ b ≠ w.heap.size := fun W hW b hb => ⟨hX b (by omega), by omega⟩
  have q2' := q2.on (NodeR.steady n) (stays_H (Below.refl w.heap.size w) (Y := fun b => X b ∧ b ≠ w.heap.size) (fun b hb h => ⟨h, by omega⟩))
  have q3' := q3.on (NodeR.steady n) (stays_H (Below.refl w.heap.size w) (Y := fun b => X b ∧ b ≠ w.heap.size) (fun b hb h => ⟨h, by omega⟩))
  have cB := hide (fun W (hW : Below w.heap.size w W) (hs : w.heap.size + 1 ≤ W.heap.size) => hC N (fun b => X b ∧ b ≠ w.heap.size) a2 c2 body W (by omega) (hXb W hs) (q2'.on (NodeR.steady n) ((lasts_HB N (fun b => X b ∧ b ≠ w.heap.size)).stays hW)) (by omega) (by omega) hnb hmm.1.2 (hV.below hW))
  have cE := hide (fun W (hW : Below w.heap.size w W) (hs : w.heap.size + 1 ≤ W.heap.size) => hC N (fun b => X b ∧ b ≠ w.heap.size) a3 c3 els W (by omega) (hXb W hs) (q3'.on (NodeR.steady n) ((lasts_HB N (fun b => X b ∧ b ≠ w.heap.size)).stays hW)) (by omega) (by omega) hne hmm.2 (hV.below hW))
  have cT := hide (fun (hok : pipeOk pipe = true) (A2 A3 : Option Addr) (m2 k2 m3 k3 : Nat) W (hW : Below w.heap.size w W) => ogToldN (HB N X) (lasts_HB N X) k ⟨s.toArray⟩ ⟨nm.toArray⟩ a1 A2 A3 c1 m2 k2 m3 k3 pos esc unit pipe W (q1.on CallR.steady ((lasts_HB N X).stays hW)) (by omega) hnp hok (hV.below hW))
  have cP := hide (fun (hok : pipeOk pipe = true) (A2 A3 : Option Addr) (k2 k3 : Nat) (ob oe : List (NT n)) W (hW : Below w.heap.size w W) (h2 : AtR (NodeR n) 9 (HB N X) W A2 ob) (h3 : AtR (NodeR n) 9 (HB N X) W A3 oe) (l2 : ob.length ≤ 1048576) (l3 : oe.length ≤ 1048576) => ogPickN n (HB N X) (lasts_HB N X) k ⟨s.toArray⟩ ⟨nm.toArray⟩ a1 A2 A3 c1 k2 k3 pos esc unit pipe ob oe W (q1.on CallR.steady ((lasts_HB N X).stays hW)) h2 h3 l2 l3 (by omega) hnp hok)
  have HQ1 := hide q1
  have HLB := hide (fun out (hf : FoldsTo BB n body out) => folds_len hf (by omega))
  have HLE := hide (fun out (hf : FoldsTo BB n els out) => folds_len hf (by omega))
  have HX := hide hX
  have HN := hide hN
  obtain ⟨S, hS⟩ : ∃ S : ByteArray, (⟨s.toArray⟩ : ByteArray) = S := ⟨_, rfl⟩
  obtain ⟨M, hM⟩ : ∃ S : ByteArray, (⟨nm.toArray⟩ : ByteArray) = S := ⟨_, rfl⟩
  obtain ⟨np, hnp2⟩ : ∃ m, pipe.length = m := ⟨_, rfl⟩
  obtain ⟨nb, hnb2⟩ : ∃ m, body.length = m := ⟨_, rfl⟩
  obtain ⟨ne, hne2⟩ : ∃ m, els.length = m := ⟨_, rfl⟩
  simp only [hS, hM, hnp2, hnb2, hne2] at cB cE cT cP ⊢
  have HS := hide hS
  have HM := hide hM
  have HNP := hide hnp2
  clear h hm ht hmay hmm hm' ht' hV hX hN q1 q2 q3 q2' q3' hXb hnp hnb hne hS hM hnp2 hnb2 hne2 hC
  go_enter Tryz.func53, Tryz.ntmps53
  go_wp2_with fail
  refine name_codeF fun W hW => ?_
  have C1 : Chg [] w W := by subst hW; (repeat' (first | with_reducible exact Chg.refl _ _ | with_reducible refine Chg.alloc ?_ _ | with_reducible refine Chg.drew ?_ | with_reducible refine Chg.drewN ?_ _ | with_reducible refine Chg.set_ ?_ _ _ (by first | (simp; done) | (simp; omega) | omega)))
  have K : Blk W w.heap.size 61 #[.int .i64 k, .string S, .string M, .slice a1 np c1, .slice a2 nb c2, .slice a3 ne c3, .int .i64 pos, .int .i64 esc, .int .i64 unit] := by subst hW; (repeat' (first | with_reducible exact Blk.new_ (by first | rfl | (simp; done) | (simp; omega)) | with_reducible refine Blk.alloc_ ?_ | with_reducible refine Blk.drew ?_ | with_reducible refine Blk.drewN ?_ _ | with_reducible refine Blk.far_ ?_ (by first | (simp; done) | (simp; omega) | omega) | with_reducible apply Blk.set_eq | rfl))
  clear hW
  have HK := hide K
  have HC1 := hide C1
  have k4 := K.cell 4; have k5 := K.cell 5; simp at k4 k5
  have lK := K.lt
  clear K C1
  go_region_with (first
    | (go_at_call_of 31 (Value.slice a2 nb c2); go_loud (refine name_world fun Wb hWb => ?_; have CB : Chg [] W Wb := (by subst hWb; (repeat' (first | with_reducible exact Chg.refl _ _ | with_reducible refine Chg.alloc ?_ _ | with_reducible refine Chg.drew ?_ | with_reducible refine Chg.drewN ?_ _ | with_reducible refine Chg.set_ ?_ _ _ (by first | (simp; done) | (simp; omega) | omega)))); clear hWb; refine (cB.out Wb ((HC1.out.trans CB (by simp)).bel) (Nat.lt_of_lt_of_le lK CB.size)).mono ?_; rintro e wB ⟨AB, kB, ob, rfl, hFB, hAB, hHB, hbB⟩; have HFB := hide hFB; have HAB := hide hAB; have HHB := hide hHB; have HCB := hide (CB.below hbB); have KB := HK.out.chg HCB.out (by simp); have q5 := KB.cell 5; simp at q5; have lB := KB.lt; obtain ⟨mb, hmb⟩ : ∃ m, ob.length = m := ⟨_, rfl⟩; rw [hmb]; have HMB := hide hmb; clear hbB KB CB hFB hAB hHB hmb))
    | (go_at_call_of 31 (Value.slice a3 ne c3); go_loud (refine name_world fun We hWe => ?_; have CE : Chg [] wB We := (by subst hWe; (repeat' (first | with_reducible exact Chg.refl _ _ | with_reducible refine Chg.alloc ?_ _ | with_reducible refine Chg.drew ?_ | with_reducible refine Chg.drewN ?_ _ | with_reducible refine Chg.set_ ?_ _ _ (by first | (simp; done) | (simp; omega) | omega)))); clear hWe; refine (cE.out We (((HC1.out.trans HCB.out (by simp)).trans CE (by simp)).bel) (Nat.lt_of_lt_of_le lB CE.size)).mono ?_; rintro e wE ⟨AE, kE, oe, rfl, hFE, hAE, hHE, hbE⟩; have HFE := hide hFE; have HAE := hide hAE; have HHE := hide hHE; have HE := hide (CE.below hbE); have KE := HK.out.chg (HCB.out.trans HE.out (by simp)) (by simp); have HKE := hide KE; have z4 := KE.frozen 4; have z5 := KE.frozen 5; have u0 := KE.cell 0; have u1 := KE.cell 1; have u2 := KE.cell 2; have u3 := KE.cell 3; have u4 := KE.cell 4; have u5 := KE.cell 5; have u6 := KE.cell 6; have u7 := KE.cell 7; have u8 := KE.cell 8; simp at u0 u1 u2 u3 u4 u5 u6 u7 u8; have lE := KE.lt; obtain ⟨me, hme⟩ : ∃ m, oe.length = m := ⟨_, rfl⟩; rw [hme]; have HME := hide hme; clear hbE KE CE hFE hAE hHE hme)))
  all_goals
    refine name_then fun W9 hW9 => ?_
    have C2 : Chg [w.heap.size] wE W9 := by subst hW9; (repeat' (first | with_reducible exact Chg.refl _ _ | with_reducible refine Chg.alloc ?_ _ | with_reducible refine Chg.drew ?_ | with_reducible refine Chg.drewN ?_ _ | with_reducible refine Chg.set_ ?_ _ _ (by first | (simp; done) | (simp; omega) | omega)))
    have K9 : Blk W9 w.heap.size 61 ⟨nodeCells k S M a1 np c1 AB mb kB AE me kE pos esc unit⟩ := by subst hW9; (repeat' (first | with_reducible exact HKE.out | with_reducible exact Blk.new_ (by first | rfl | (simp; done) | (simp; omega)) | with_reducible refine Blk.alloc_ ?_ | with_reducible refine Blk.drew ?_ | with_reducible refine Blk.drewN ?_ _ | with_reducible refine Blk.far_ ?_ (by first | (simp; done) | (simp; omega) | omega) | with_reducible apply Blk.set_eq | rfl))
    clear hW9 u0 u1 u2 u3 u4 u5 u6 u7 u8 z4 z5 lE lB q5 k4 k5 lK
    have C9 := hide ((((((HC1.out.trans HCB.out (by simp)).trans HE.out (by simp)).mono (S' := [w.heap.size]) (by simp)).trans C2 (by simp)).mono (S' := []) (by intro x hx; simp at hx; subst hx; exact .inr (Nat.le_refl _))))
    have H2 := hide ((HAB.out.on (NodeR.steady n) ((lasts_HB N (fun b => X b ∧ b ≠ w.heap.size)).stays HE.out.bel)).on (NodeR.steady n) (stays_box C2))
    have H3 := hide (HAE.out.on (NodeR.steady n) (stays_box C2))
    have l2 := HLB.out ob HFB.out
    have l3 := HLE.out oe HFE.out
    have u0 := K9.cell 0; have u1 := K9.cell 1; have u2 := K9.cell 2; have u3 := K9.cell 3; have u4 := K9.cell 4; have u5 := K9.cell 5; have u6 := K9.cell 6; have u7 := K9.cell 7; have u8 := K9.cell 8; simp at u0 u1 u2 u3 u4 u5 u6 u7 u8
    have lE := K9.lt
    have K9' := K9
    clear C2 K9
    by_cases hk2 : k = 2
    · subst hk2
      have hok := HMAY.out (.inl rfl)
      have hT := hide (cT.out hok AB AE mb kB me kE W9 C9.out.bel)
      rcases node_cases (⟨2, s, nm, pipe, body, els, pos, esc, unit⟩ : NN (NT n)) ob oe with ⟨_, htell⟩ | ⟨hk, _⟩
      rotate_left
      · exact absurd rfl hk
      obtain ⟨b, hb⟩ : ∃ b, tellP esc (valueP pipe) = b := ⟨_, rfl⟩
      have htell2 : b = tellsN (⟨2, s, nm, pipe, ob, oe, pos, esc, unit⟩ : NN (NT n)) := by rw [← hb]; exact htell
      rw [hb] at hT
      have HTELL := hide htell2
      clear htell htell2 hb hok
      cases b with
      | true =>
        have hT1 : Hid (Calls Tryz.prog 65 #[.agg ⟨nodeCells 2 S M a1 np c1 AB mb kB AE me kE pos esc unit⟩] W9 fun e w' => ∃ t : List UInt8, t.length ≤ 1000000 ∧ ((t = [] ∧ e = .returned (.tuple #[.slice none 0 0, .bool true])) ∨ (t ≠ [] ∧ ∃ g, e = .returned (.tuple #[.slice (some ⟨g, 0, none⟩) 1 1, .bool true]) ∧ W9.heap.size ≤ g ∧ Blk w' g 61 ⟨nodeCells 1 ⟨t.toArray⟩ ⟨#[]⟩ none 0 0 none 0 0 none 0 0 pos 0 0⟩)) ∧ Below W9.heap.size W9 w') := hT
        clear hT
        go_wp2_with fail
        refine hT1.out.mono ?_
        rintro e w3 ⟨t, htl, ⟨ht, rfl⟩ | ⟨ht, g, rfl, hg, hat⟩, hb3⟩
        · have C10 := hide (C9.out.below hb3)
          have HTL := hide htl
          have HTT := hide ht
          clear hb3 htl ht u0 u1 u2 u3 u4 u5 u6 u7 u8 lE
          go_wp2_with fail
          go_ret
          have hnf := NodeF.told (B := BB) (x := (⟨2, s, nm, pipe, ob, oe, pos, esc, unit⟩ : NN (NT n))) t HTELL.out.symm HTL.out
          rw [if_pos HTT.out] at hnf
          exact ⟨none, 0, [], ob, oe, rfl, HFB.out, HFE.out, hnf, AtR.nil, .inl ⟨rfl, rfl, rfl⟩, C10.out.bel⟩
        · have C10 := hide (C9.out.below hb3)
          have HTL := hide htl
          have HTT := hide ht
          have HAT := hide hat
          have HG := hide hg
          clear hb3 htl ht hat hg u0 u1 u2 u3 u4 u5 u6 u7 u8 lE
          go_wp2_with fail
          go_ret
          have hnf := NodeF.told (B := BB) (x := (⟨2, s, nm, pipe, ob, oe, pos, esc, unit⟩ : NN (NT n))) t HTELL.out.symm HTL.out
          rw [if_neg HTT.out] at hnf
          have hgw : w.heap.size ≤ g := Nat.le_trans C9.out.size HG.out
          refine ⟨some ⟨g, 0, none⟩, 1, [textN t pos], ob, oe, rfl, HFB.out, HFE.out, hnf, ?_, .inr ⟨_, rfl⟩, C10.out.bel⟩
          exact at_oneF (AtB.of_blk HAT.out) ⟨⟨by have := HN.out; omega, _, _, HAT.out⟩, HX.out _ hgw⟩ rfl (NodeR.made (n := n) (x := (textN t pos : NN (NT n))) AtR.nil AtR.nil AtR.nil)
      | false =>
        have hT1 : Hid (Calls Tryz.prog 65 #[.agg ⟨nodeCells 2 S M a1 np c1 AB mb kB AE me kE pos esc unit⟩] W9 fun e w' => e = .returned (.tuple #[.slice none 0 0, .bool false]) ∧ Below W9.heap.size W9 w') := hT
        clear hT
        have HK9 := hide K9'
        go_wp2_with fail
        refine hT1.out.mono ?_
        rintro e w3 ⟨rfl, hb3⟩
        have C10 := hide (C9.out.below hb3)
        have KK := HK9.out.chg (Chg.of_below (S := []) hb3) (by simp)
        have HB3 := hide (Chg.of_below (S := []) hb3)
        clear u0 u1 u2 u3 u4 u5 u6 u7 u8 lE
        have u0 := KK.cell 0; have u1 := KK.cell 1; have u2 := KK.cell 2; have u3 := KK.cell 3; have u4 := KK.cell 4; have u5 := KK.cell 5; have u6 := KK.cell 6; have u7 := KK.cell 7; have u8 := KK.cell 8; simp at u0 u1 u2 u3 u4 u5 u6 u7 u8
        have lE := KK.lt
        clear hb3 KK
        go_wp2_with fail
        go_ret
        refine name_it (C := fun W8 => NodeTo2 n N X w ⟨2, s, nm, pipe, body, els, pos, esc, unit⟩ (.returned (.slice (some ⟨w3.heap.size, 0, none⟩) 1 1)) W8) fun W8 hW8 => ?_
        have C8 : Chg [] w3 W8 := by subst hW8; (repeat' (first | with_reducible exact Chg.refl _ _ | with_reducible refine Chg.alloc ?_ _ | with_reducible refine Chg.drew ?_ | with_reducible refine Chg.drewN ?_ _ | with_reducible refine Chg.set_ ?_ _ _ (by first | (simp; done) | (simp; omega) | omega)))
        have K8 : Blk W8 w3.heap.size 61 ⟨nodeCells 2 S M a1 np c1 AB mb kB AE me kE pos esc unit⟩ := by subst hW8; (repeat' (first | with_reducible exact Blk.new_ (by first | rfl | (simp; done) | (simp; omega)) | with_reducible refine Blk.alloc_ ?_ | with_reducible refine Blk.drew ?_ | with_reducible refine Blk.drewN ?_ _ | with_reducible refine Blk.far_ ?_ (by first | (simp; done) | (simp; omega) | omega) | with_reducible apply Blk.set_eq | rfl))
        clear hW8
        have hCK := C10.out.trans C8 (by simp)
        refine ⟨some ⟨w3.heap.size, 0, none⟩, 1, [⟨2, s, nm, pipe, ob, oe, pos, esc, unit⟩], ob, oe, rfl, HFB.out, HFE.out, .kept HTELL.out.symm (pick_not (⟨2, s, nm, pipe, body, els, pos, esc, unit⟩ : NN (NT n)) ob oe (by show ¬ (2 : Int) = 3; decide)), ?_, .inr ⟨_, rfl⟩, hCK.bel⟩
        refine at_oneF (AtB.of_blk (t := 61) (cs := nodeCells 2 S M a1 np c1 AB mb kB AE me kE pos esc unit) K8) ⟨⟨by have := HN.out; have := C10.out.size; omega, _, _, K8⟩, HX.out _ C10.out.size⟩ rfl ?_
        have c89 : Below W9.heap.size W9 W8 := (Chg.trans (HB3.out) C8 (by simp)).bel
        have e1 := NodeR.made (n := n) (U := HB N X) (w := W8) (x := (⟨2, s, nm, pipe, ob, oe, pos, esc, unit⟩ : NN (NT n))) (a1 := a1) (c1 := c1) (a2 := AB) (c2 := kB) (a3 := AE) (c3 := kE) (HQ1.out.on CallR.steady ((lasts_HB N X).stays hCK.bel)) (H2.out.on (NodeR.steady n) ((lasts_HB N X).stays c89)) (H3.out.on (NodeR.steady n) ((lasts_HB N X).stays c89))
        simp only [HS.out, HM.out, HNP.out, HMB.out, HME.out] at e1
        exact e1
    · by_cases hk3 : k = 3
      · subst hk3
        have hok := HMAY.out (.inr rfl)
        have hP := hide (cP.out hok AB AE kB kE ob oe W9 C9.out.bel H2.out H3.out l2 l3)
        rw [HMB.out, HME.out] at hP
        have hpk := pick_is (⟨3, s, nm, pipe, body, els, pos, esc, unit⟩ : NN (NT n)) ob oe rfl
        have htn : tellsN (⟨3, s, nm, pipe, ob, oe, pos, esc, unit⟩ : NN (NT n)) = false := by
          rcases node_cases (⟨3, s, nm, pipe, body, els, pos, esc, unit⟩ : NN (NT n)) ob oe with ⟨h, _⟩ | ⟨_, h⟩
          · exact absurd h (by show ¬ (3 : Int) = 2; decide)
          · exact h
        have HTN := hide htn
        simp only at hpk
        obtain ⟨pb, hpb⟩ : ∃ b, pickB (valueP pipe) = b := ⟨_, rfl⟩
        obtain ⟨is, his⟩ : ∃ b, (valueP pipe).isSome = b := ⟨_, rfl⟩
        rw [hpb, his] at hP hpk
        obtain ⟨va, hva⟩ : ∃ b, ((if pb then ob else oe).any fun y => decide (kindN n y = 7)) = b := ⟨_, rfl⟩
        rw [hva] at hP hpk
        have e20 : ((3 : Int) == 2) = false := rfl
        obtain ⟨okb, hokb⟩ : ∃ b, (is && !va) = b := ⟨_, rfl⟩
        rw [hokb] at hP hpk
        have HPK := hide hpk
        have HK9 := hide K9'
        clear hpk htn hpb his hva hokb hok hk2
        cases okb with
        | true =>
          go_wp2_with fail
          refine hP.out.mono ?_
          rintro e w3 ⟨rfl, hb3⟩
          have C10 := hide (C9.out.below hb3)
          have HB3 := hide hb3
          clear hb3 u0 u1 u2 u3 u4 u5 u6 u7 u8 lE
          cases pb with
          | true =>
            have hpk2 : pickP (kindN n) (⟨3, s, nm, pipe, ob, oe, pos, esc, unit⟩ : NN (NT n)) = some ob := HPK.out
            have HP2 := hide hpk2
            clear hpk2
            go_wp2_with fail
            go_ret
            refine ⟨AB, kB, ob.map (liftN n), ob, oe, congrArg (fun m => Ending.returned (Value.slice AB m kB)) (Eq.trans (List.length_map (liftN n) : (List.map (liftN n) ob).length = ob.length) HMB.out).symm, HFB.out, HFE.out, .picked ob _ HTN.out HP2.out rfl, lift_at (H2.out.on (NodeR.steady n) ((lasts_HB N X).stays HB3.out)), ?_, C10.out.bel⟩
            have e : (List.map (liftN n) ob).length = ob.length := List.length_map (liftN n)
            exact e.symm ▸ HHB.out
          | false =>
            have hpk2 : pickP (kindN n) (⟨3, s, nm, pipe, ob, oe, pos, esc, unit⟩ : NN (NT n)) = some oe := HPK.out
            have HP2 := hide hpk2
            clear hpk2
            go_wp2_with fail
            go_ret
            refine ⟨AE, kE, oe.map (liftN n), ob, oe, congrArg (fun m => Ending.returned (Value.slice AE m kE)) (Eq.trans (List.length_map (liftN n) : (List.map (liftN n) oe).length = oe.length) HME.out).symm, HFB.out, HFE.out, .picked oe _ HTN.out HP2.out rfl, lift_at (H3.out.on (NodeR.steady n) ((lasts_HB N X).stays HB3.out)), ?_, C10.out.bel⟩
            have e : (List.map (liftN n) oe).length = oe.length := List.length_map (liftN n)
            exact e.symm ▸ HHE.out
        | false =>
          have hpk2 : pickP (kindN n) (⟨3, s, nm, pipe, ob, oe, pos, esc, unit⟩ : NN (NT n)) = none := HPK.out
          have HP2 := hide hpk2
          clear hpk2
          go_wp2_with fail
          refine hP.out.mono ?_
          rintro e w3 ⟨rfl, hb3⟩
          have C10 := hide (C9.out.below hb3)
          have KK := HK9.out.chg (Chg.of_below (S := []) hb3) (by simp)
          have HB3 := hide (Chg.of_below (S := []) hb3)
          clear u0 u1 u2 u3 u4 u5 u6 u7 u8 lE
          have u0 := KK.cell 0; have u1 := KK.cell 1; have u2 := KK.cell 2; have u3 := KK.cell 3; have u4 := KK.cell 4; have u5 := KK.cell 5; have u6 := KK.cell 6; have u7 := KK.cell 7; have u8 := KK.cell 8; simp at u0 u1 u2 u3 u4 u5 u6 u7 u8
          have lE := KK.lt
          clear hb3 KK
          cases pb
          all_goals
            go_wp2_with fail
            go_ret
            refine name_it (C := fun W8 => NodeTo2 n N X w ⟨3, s, nm, pipe, body, els, pos, esc, unit⟩ (.returned (.slice (some ⟨w3.heap.size, 0, none⟩) 1 1)) W8) fun W8 hW8 => ?_
            have C8 : Chg [] w3 W8 := by subst hW8; (repeat' (first | with_reducible exact Chg.refl _ _ | with_reducible refine Chg.alloc ?_ _ | with_reducible refine Chg.drew ?_ | with_reducible refine Chg.drewN ?_ _ | with_reducible refine Chg.set_ ?_ _ _ (by first | (simp; done) | (simp; omega) | omega)))
            have K8 : Blk W8 w3.heap.size 61 ⟨nodeCells 3 S M a1 np c1 AB mb kB AE me kE pos esc unit⟩ := by subst hW8; (repeat' (first | with_reducible exact Blk.new_ (by first | rfl | (simp; done) | (simp; omega)) | with_reducible refine Blk.alloc_ ?_ | with_reducible refine Blk.drew ?_ | with_reducible refine Blk.drewN ?_ _ | with_reducible refine Blk.far_ ?_ (by first | (simp; done) | (simp; omega) | omega) | with_reducible apply Blk.set_eq | rfl))
            clear hW8
            have hCK := C10.out.trans C8 (by simp)
            refine ⟨some ⟨w3.heap.size, 0, none⟩, 1, [⟨3, s, nm, pipe, ob, oe, pos, esc, unit⟩], ob, oe, rfl, HFB.out, HFE.out, .kept HTN.out HP2.out, ?_, .inr ⟨_, rfl⟩, hCK.bel⟩
            refine at_oneF (AtB.of_blk (t := 61) (cs := nodeCells 3 S M a1 np c1 AB mb kB AE me kE pos esc unit) K8) ⟨⟨by have := HN.out; have := C10.out.size; omega, _, _, K8⟩, HX.out _ C10.out.size⟩ rfl ?_
            have c89 : Below W9.heap.size W9 W8 := (Chg.trans (HB3.out) C8 (by simp)).bel
            have e1 := NodeR.made (n := n) (U := HB N X) (w := W8) (x := (⟨3, s, nm, pipe, ob, oe, pos, esc, unit⟩ : NN (NT n))) (a1 := a1) (c1 := c1) (a2 := AB) (c2 := kB) (a3 := AE) (c3 := kE) (HQ1.out.on CallR.steady ((lasts_HB N X).stays hCK.bel)) (H2.out.on (NodeR.steady n) ((lasts_HB N X).stays c89)) (H3.out.on (NodeR.steady n) ((lasts_HB N X).stays c89))
            simp only [HS.out, HM.out, HNP.out, HMB.out, HME.out] at e1
            exact e1
      · have e2 : (k == 2) = false := by simpa using hk2
        have e3 : (k == 3) = false := by simpa using hk3
        have htn : tellsN (⟨k, s, nm, pipe, ob, oe, pos, esc, unit⟩ : NN (NT n)) = false := by
          rcases node_cases (⟨k, s, nm, pipe, body, els, pos, esc, unit⟩ : NN (NT n)) ob oe with ⟨h, _⟩ | ⟨_, h⟩
          · exact absurd h hk2
          · exact h
        have HTN := hide htn
        have hpk := pick_not (⟨k, s, nm, pipe, body, els, pos, esc, unit⟩ : NN (NT n)) ob oe hk3
        have HP2 := hide (show pickP (kindN n) (⟨k, s, nm, pipe, ob, oe, pos, esc, unit⟩ : NN (NT n)) = none from hpk)
        clear hk2 hk3 htn hpk
        go_wp2_with fail
        go_ret
        refine name_it (C := fun W8 => NodeTo2 n N X w ⟨k, s, nm, pipe, body, els, pos, esc, unit⟩ (.returned (.slice (some ⟨W9.heap.size, 0, none⟩) 1 1)) W8) fun W8 hW8 => ?_
        have C8 : Chg [] W9 W8 := by subst hW8; (repeat' (first | with_reducible exact Chg.refl _ _ | with_reducible refine Chg.alloc ?_ _ | with_reducible refine Chg.drew ?_ | with_reducible refine Chg.drewN ?_ _ | with_reducible refine Chg.set_ ?_ _ _ (by first | (simp; done) | (simp; omega) | omega)))
        have K8 : Blk W8 W9.heap.size 61 ⟨nodeCells k S M a1 np c1 AB mb kB AE me kE pos esc unit⟩ := by subst hW8; (repeat' (first | with_reducible exact Blk.new_ (by first | rfl | (simp; done) | (simp; omega)) | with_reducible refine Blk.alloc_ ?_ | with_reducible refine Blk.drew ?_ | with_reducible refine Blk.drewN ?_ _ | with_reducible refine Blk.far_ ?_ (by first | (simp; done) | (simp; omega) | omega) | with_reducible apply Blk.set_eq | rfl))
        clear hW8
        have hCK := C9.out.trans C8 (by simp)
        refine ⟨some ⟨W9.heap.size, 0, none⟩, 1, [⟨k, s, nm, pipe, ob, oe, pos, esc, unit⟩], ob, oe, rfl, HFB.out, HFE.out, .kept HTN.out HP2.out, ?_, .inr ⟨_, rfl⟩, hCK.bel⟩
        refine at_oneF (AtB.of_blk (t := 61) (cs := nodeCells k S M a1 np c1 AB mb kB AE me kE pos esc unit) K8) ⟨⟨by have := HN.out; have := C9.out.size; omega, _, _, K8⟩, HX.out _ C9.out.size⟩ rfl ?_
        have c89 : Below W9.heap.size W9 W8 := (Chg.trans ((Chg.refl [] W9)) C8 (by simp)).bel
        have e1 := NodeR.made (n := n) (U := HB N X) (w := W8) (x := (⟨k, s, nm, pipe, ob, oe, pos, esc, unit⟩ : NN (NT n))) (a1 := a1) (c1 := c1) (a2 := AB) (c2 := kB) (a3 := AE) (c3 := kE) (HQ1.out.on CallR.steady ((lasts_HB N X).stays hCK.bel)) (H2.out.on (NodeR.steady n) ((lasts_HB N X).stays c89)) (H3.out.on (NodeR.steady n) ((lasts_HB N X).stays c89))
        simp only [HS.out, HM.out, HNP.out, HMB.out, HME.out] at e1
        exact e1
end Go.Proofs.YtnepogddjinpoaaGreatDoor

namespace Go.Proofs.YtnepogddjinpoaaGreatDoor
open Go.RowKit
set_option linter.unusedVariables false
set_option linter.unusedSimpArgs false

/-- What one node may become. -/
def OneF (m : Nat) (x : NN (NT m)) (o : List (NN (NT m))) : Prop := ∃ b e, FoldsTo BB m x.body b ∧ FoldsTo BB m x.els e ∧ NodeF BB m { x with body := b, els := e } o
theorem rows_len {m : Nat} {l xs : List (NN (NT m))} (h : Rows2 (OneF m) l xs) (hb : sumBy (bareN (m + 1)) l ≤ 1048576) : xs.length ≤ 1048576 := by
  have h1 := rows_sum (bareN (m + 1)) (bareN (m + 1)) (fun x _ o ⟨b, e, h1, h2, h3⟩ => step_bare BB m h1 h2 h3) h
  have h2 := sumBy_len (bareN (m + 1)) bareN_pos xs
  exact Nat.le_trans h2 (Nat.le_trans h1 hb)
theorem rows_texts {m : Nat} {l xs : List (NN (NT m))} (h : Rows2 (OneF m) l xs) (hb : sumBy (bareN (m + 1)) l ≤ 1048576) (ht : sumBy (textsN (m + 1)) l ≤ 10000000000000) : sumBy (fun x : NN (NT m) => x.s.length) xs ≤ 100000000000000 := by
  have h1 := rows_sum (textsN (m + 1)) (fun x => textsN (m + 1) x + BB * bareN (m + 1) x) (fun x _ o ⟨b, e, h1, h2, h3⟩ => step_texts BB m h1 h2 h3) h
  have h2 : sumBy (fun x => textsN (m + 1) x + BB * bareN (m + 1) x) l = sumBy (textsN (m + 1)) l + BB * sumBy (bareN (m + 1)) l := split_sum (n := m + 1) l
  have h3 : sumBy (fun x : NN (NT m) => x.s.length) xs ≤ sumBy (textsN (m + 1)) xs := sumBy_le xs (fun x _ => by
    show x.s.length ≤ x.s.length + sumBy (textsN m) x.body + sumBy (textsN m) x.els
    omega)
  have h4 : BB * sumBy (bareN (m + 1)) l ≤ 1000000 * 1048576 := Nat.mul_le_mul_left _ hb
  have h5 : sumBy (textsN (m + 1)) xs ≤ sumBy (textsN (m + 1)) l + BB * sumBy (bareN (m + 1)) l := by rw [← h2]; exact h1
  omega
theorem sumBy_take {α : Type} (f : α → Nat) (l : List α) (k : Nat) : sumBy f (l.take k) ≤ sumBy f l := by
  have h := sumBy_append f (l.take k) (l.drop k)
  rw [List.take_append_drop] at h
  omega
set_option maxHeartbeats 8000000 in
set_option maxRecDepth 100000 in
theorem nodes_stepF (m : Nat) (u : Int) (hC : NodesC m u) : NodesC (m + 1) u := by
  intro N X a c (l : List (NN (NT m))) w hN hX h hm ht hnum hmay hV
  show Calls Tryz.prog 31 #[.slice a (@List.length (NN (NT m)) l) c] w (NodesTo (m + 1) N X w l)
  obtain ⟨i0, hi, hz0, hz1, hz2⟩ := info_parts info_nodeO
  have H := hide h
  have HM := hide hm
  have HTX := hide ht
  have HNUM := hide hnum
  have HMAY := hide hmay
  have HV := hide hV
  have HX := hide hX
  have HC := hide hC
  have hlen : l.length ≤ 1048576 := Nat.le_trans (sumBy_len (bareN (m + 1)) bareN_pos l) hm
  clear h hm ht hnum hmay hV hX hC
  go_enter Tryz.func31, Tryz.ntmps31
  go_wp2_with fail
  go_loopw [3, 8] (fun ov iv wr => ∃ (j : Nat) (es : List (List Value)) (xs : List (NN (NT m))), iv = .int .i64 (j : Int) ∧ j ≤ l.length ∧ Hid (Rows2 (OneF m) (l.take j) xs) ∧ Hid (Below w.heap.size w wr ∧ RowR (NodeH X (m + 1)) 9 N 61 wr ov es xs ∧ ∀ q, ov.ownBlock = some q → w.heap.size ≤ q)) (fun _ iv _ => l.length - (intOf iv).toNat)
  case atStart => exact ⟨0, [], [], rfl, Nat.zero_le _, hide rfl, hide ⟨Below.refl _ _, RowR.nil _ _ _ _ _, fun q hq => by cases hq⟩⟩
  case round =>
    obtain ⟨j, es, xs, rfl, hjl, hxs, hJ⟩ := hrel
    by_cases hlt : j < l.length
    · obtain ⟨z, hz⟩ : ∃ z : NN (NT m), l[j]? = some z := ⟨_, List.getElem?_eq_getElem hlt⟩
      have hzm := List.mem_of_getElem? hz
      have HA := (H.out.on (NodeR.steady (m + 1)) (stays_H (Below.refl w.heap.size w) (Y := fun b => X b ∧ (b < w.heap.size ∨ wr.heap.size ≤ b)) (fun b hb h => ⟨h, .inl hb⟩))).on (NodeR.steady (m + 1)) ((lasts_HB N (fun b => X b ∧ (b < w.heap.size ∨ wr.heap.size ≤ b))).stays hJ.out.1)
      obtain ⟨g, o, vs, rfl, hg, _, _, hcell, hNz⟩ := HA j z hz
      have HNz := hide hNz
      obtain ⟨k, s, nm, a1, n1, c1, a2, n2, c2, a3, n3, c3, pos, esc, unit, rfl⟩ := hNz.shape
      have f0 := hcell 0 _ rfl; have f1 := hcell 1 _ rfl; have f2 := hcell 2 _ rfl; have f3 := hcell 3 _ rfl; have f4 := hcell 4 _ rfl; have f5 := hcell 5 _ rfl; have f6 := hcell 6 _ rfl; have f7 := hcell 7 _ rfl; have f8 := hcell 8 _ rfl
      simp only [Nat.add_zero] at f0
      have hji : (j : Int) < (l.length : Int) := by omega
      have hwz := hJ.out.1.size
      have cO := hide (fun (W' : World) (hW : Below wr.heap.size wr W') => node_any m u HC.out N (fun b => X b ∧ (b < w.heap.size ∨ wr.heap.size ≤ b)) _ z W' (Nat.le_trans hN (Nat.le_trans hwz hW.size)) (fun b hb => ⟨HX.out b (Nat.le_trans hwz (Nat.le_trans hW.size hb)), .inr (Nat.le_trans hW.size hb)⟩) (NodeR.steady (m + 1) _ _ _ _ ((lasts_HB N (fun b => X b ∧ (b < w.heap.size ∨ wr.heap.size ≤ b))).stays hW) _ _ HNz.out) (Nat.le_trans (sumBy_mem (bareN (m + 1)) l z hzm) HM.out) (Nat.le_trans (sumBy_mem (textsN (m + 1)) l z hzm) HTX.out) (HNUM.out z hzm) (HMAY.out z hzm) (HV.out.below (hJ.out.1.trans (hW.mono hwz))))
      have hnx := hide (fun (q : List (NN (NT m))) (hq : OneF m z q) => (show Rows2 (OneF m) (l.take (j + 1)) (xs ++ q) by rw [List.take_add_one, hz]; exact hxs.out.snoc hq))
      have HLT := hide hlt
      have hj9 : j < 1048576 := by omega
      clear hcell hz hNz HNz hzm HA hlt
      go_wp2_with fail
      refine name_world fun W1 hW1 => ?_
      have C1 : Chg [] wr W1 := by subst hW1; (repeat' (first | with_reducible exact Chg.refl _ _ | with_reducible refine Chg.alloc ?_ _ | with_reducible refine Chg.drew ?_ | with_reducible refine Chg.drewN ?_ _ | with_reducible refine Chg.set_ ?_ _ _ (by first | (simp; done) | (simp; omega) | omega)))
      clear hW1 f0 f1 f2 f3 f4 f5 f6 f7 f8
      refine (cO.out W1 C1.bel).mono ?_
      rintro e wP ⟨A, cc, q, bq, fq, rfl, hFB, hFE, hNF, hAT, hHD, hbP⟩
      have hBP := (C1.below hbP).bel
      have HBP := hide hBP
      have HRP := hide (hJ.out.2.1.below (NodeH.steady X (m + 1)) hBP)
      have hrows := hnx.out q ⟨bq, fq, hFB, hFE, hNF⟩
      have hql : xs.length + q.length ≤ 1048576 := by
        have h1 := rows_len hrows (Nat.le_trans (sumBy_take _ _ _) HM.out)
        rw [List.length_append] at h1
        exact h1
      have HROWS := hide hrows
      have hownP := HRP.out.own
      have hel : es.length = xs.length := HRP.out.len
      have hPz := HBP.out.size
      clear C1 hbP hBP hrows hFB hFE hNF cO hnx
      rcases hHD with ⟨rfl, rfl, h0⟩ | ⟨gq, rfl⟩
      · have hq0 : q = [] := List.length_eq_zero_iff.1 h0
        subst hq0
        clear hAT h0
        go_wp2_with (at_builtin; refine wpList_append_own_none rfl _ _ 41 rfl N 61 i0 9 Tryz.underlying41 hi u3 es.length es.flatten rfl hownP rfl ?_)
        have hlt := HLT.out
        go_wp2_with fail
        go_roundw
        case rel => exact ⟨j + 1, es, xs, by go_num, by omega, hide (by have := HROWS.out; rwa [List.append_nil] at this), hide ⟨hJ.out.1.trans (HBP.out.mono hwz), HRP.out, hJ.out.2.2⟩⟩
        case measure => simp [intOf]; omega
      · obtain ⟨fs, hfl0, hfs, hfr, hfc⟩ := hAT.cellsOf
        have hfl : fs.length = q.length := hfl0
        clear hfl0
        have hones : ∀ u ∈ fs.flatten, u.oneCell' = true := by
          intro u hu
          obtain ⟨cl, hcl, hu2⟩ := List.mem_flatten.1 hu
          obtain ⟨r, hr, hre⟩ := List.mem_iff_getElem.1 hcl
          have hrr : fs[r]? = some cl := by rw [List.getElem?_eq_getElem hr, hre]
          obtain ⟨y, hy⟩ : ∃ y, q[r]? = some y := ⟨_, List.getElem?_eq_getElem (by rw [← hfl]; exact hr)⟩
          obtain ⟨k', s', nm', a1', n1', c1', a2', n2', c2', a3', n3', c3', pos', esc', unit', rfl⟩ := NodeR.shape (hfr r cl y hrr hy)
          exact nodeCells1 u hu2
        have hfl9 : fs.flatten.length = q.length * 9 := by rw [flat_len hfs, hfl]
        have HFS := hide hfs
        have HFL := hide hfl
        have HFR := hide hfr
        clear hfs hfr hAT
        go_wp2_with (at_builtin; refine wpList_append_own_at _ rfl _ _ 41 rfl N 61 i0 (.agg #[.int .i64 0, .string ⟨#[]⟩, .string ⟨#[]⟩, .slice none 0 0, .slice none 0 0, .slice none 0 0, .int .i64 0, .int .i64 0, .int .i64 0]) 9 136 Tryz.underlying41 hi hz0 hz1 hz2 rfl (by decide) u3 es.length es.flatten rfl hownP ⟨gq, 0, none⟩ q.length cc fs.flatten rfl hfl9 (fun j u hj => by rw [zaddE]; exact hfc j u hj) hones (by unfold maxLen; omega) (by omega) (by omega) ?_)
        intro v' w4 hown4 hgrow4 _ hat4
        have hV4 : ∀ (r : Nat) (cl : List Value) (y : NN (NT m)), fs[r]? = some cl → q[r]? = some y → NodeH X (m + 1) (besideB N u3.ownBlock) wP cl y := by
          intro r cl y hr hy
          refine NodeR.steady (m + 1) _ _ wP wP (stays_weaken ?_) _ _ (HFR.out r cl y hr hy)
          rintro b hb ⟨h1, h2, h3⟩
          refine ⟨⟨h1, fun e => ?_⟩, h2⟩
          have h4 := hJ.out.2.2 b e.symm
          have h5 := (hJ.out.2.1.own.lt b e.symm).2
          omega
        have hR4 := hide (HRP.out.appendB (NodeH.steady X (m + 1)) (fs := fs) (ys := q) HFS.out HFL.out hV4 (Below.refl wP.heap.size wP) hgrow4 (by rw [HFL.out, hel]; exact hown4) hat4)
        have hB4 := hide ((hJ.out.1.trans (HBP.out.mono hwz)).grown hgrow4 (by omega) (fun q hq => hJ.out.2.2 q hq))
        have hQ4 : Hid (∀ q, v'.ownBlock = some q → w.heap.size ≤ q) := hide (fun q hq => by
          rcases hat4 with h5 | h5
          · exact hJ.out.2.2 q (h5.symm.trans hq)
          · rw [h5] at hq
            injection hq with hq
            omega)
        clear hown4 hgrow4 hat4 hV4 hownP hfc hones hfl9
        have hlt := HLT.out
        go_wp2_with fail
        go_roundw
        case rel => exact ⟨j + 1, es ++ fs, xs ++ q, by go_num, by omega, HROWS, hide ⟨hB4.out, hR4.out, hQ4.out⟩⟩
        case measure => simp [intOf]; omega
    · obtain rfl : j = l.length := by omega
      have hif : decide ((l.length : Int) < (l.length : Int)) = false := by simp
      have hrows : Rows2 (OneF m) l xs := by have := hxs.out; rwa [List.take_of_length_le (Nat.le_refl _)] at this
      obtain ⟨A0, c0, hv0⟩ := hJ.out.2.1.slice
      subst hv0
      have cB0 := beside_H X m N A0 c0 xs wr (Nat.le_trans hN hJ.out.1.size) (hJ.out.2.1.at_ (NodeH.steady X (m + 1)) rfl (Nat.le_refl _)) (rows_len hrows HM.out) (rows_texts hrows HM.out HTX.out)
      have cB := hide cB0
      have HROWS := hide hrows
      clear cB0 hrows hjl hlt hxs
      go_wp2_with fail
      refine cB.out.mono ?_
      rintro e w2 ⟨A2, c2, es2, rfl, hR2, hQ2, hb2⟩
      have HR2 := hide hR2
      have HQ2 := hide hQ2
      have HB2 := hide (hJ.out.1.trans (hb2.mono hJ.out.1.size))
      have hsz := hJ.out.1.size
      clear hR2 hQ2 hb2
      go_wp2_with fail
      go_ret
      refine ⟨A2, c2, besideL xs, rfl, ⟨xs, HROWS.out, rfl⟩, ?_, ?_, HB2.out⟩
      · refine atH_out (HR2.out.at_ (NodeH.steady X (m + 1)) rfl (Nat.le_refl _)) ?_
        rintro b o rfl
        exact HX.out b (Nat.le_trans hsz (HQ2.out b rfl))
      · rcases HR2.out.own.2 with ⟨he, h0⟩ | ⟨g, cap, cur, he, _⟩
        · injection he with e1 e2 e3
          exact .inl ⟨e1, e3, e2⟩
        · injection he with e1 e2 e3
          exact .inr ⟨g, e1⟩
theorem nodes_any (u : Int) : ∀ n, NodesC n u := by
  intro n
  have zero : NodesC 0 u := by
    intro N X a c l w hN hX h hm ht hnum hmay hV
    have hl : l = [] := by cases l with | nil => rfl | cons x _ => exact x.elim
    subst hl
    have h := nodes_step 0 id anyB lasts_any a c [] w AtR.nil (by simp) (Nat.zero_le _) (fun x hx => absurd hx (by simp))
    refine h.mono ?_
    rintro e w' ⟨A1, c1, es, he, hR, hb⟩
    refine ⟨A1, c1, [], he, rfl, AtR.nil, ?_, hb⟩
    rcases hR.own.2 with ⟨he, h0⟩ | ⟨g, cap, cur, he, _⟩
    · injection he with e1 e2 e3
      exact .inl ⟨e1, e3, rfl⟩
    · injection he with e1 e2 e3
      exact .inr ⟨g, e1⟩
  induction n with
  | zero => exact zero
  | succ n ih => exact nodes_stepF n u ih
end Go.Proofs.YtnepogddjinpoaaGreatDoor
