/-
  PLAIN LAWS of many texts, in one.
-/
import Derived.Test.YtnepogddjinpoaaGreatDoorM3
import Derived.Test.YtnepogddjinpoaaGreatDoorQB
import Derived.Test.YtnepogddjinpoaaGreatDoorOwnNode
import Derived.Deep.MidRow
import Derived.Great.Walk
namespace Go.Proofs.YtnepogddjinpoaaGreatDoor
open Go.RowKit
set_option linter.unusedVariables false
set_option linter.unusedSimpArgs false

def eyN1 : NN (NT 0) := ⟨1, [97], [], [], [], [], 0, 0, 0⟩
def eyN2 : NN (NT 0) := ⟨2, [], [], eyP, [], [], 1, 1, 0⟩
def eyN3 : NN (NT 0) := ⟨1, [99], [], [], [], [], 8, 0, 0⟩
def eyL : List (NT 1) := [eyN1, eyN2, eyN3]
theorem depthP0 (a : Option Addr) (c : Nat) (w : World) : Calls Tryz.prog 49 #[.slice a 0 c] w fun e w' => e = .returned (.int .i64 0) ∧ w = w' := by
  go_enter Tryz.func49, Tryz.ntmps49
  go_wp2_with fail
  refine wp_loop_rounds 1 ?_
  rw [rounds_succ]
  go_wp2_with fail
  go_ret
  exact ⟨rfl, rfl⟩
set_option maxHeartbeats 2000000 in
set_option maxRecDepth 100000 in
theorem mayT_ex (k pos esc unit : Int) (s nm : ByteArray) (a1 a2 a3 : Option Addr) (n1 c1 c2 c3 : Nat) (w : World) (hk : k = 1) :
    Calls Tryz.prog 52 #[.agg ⟨nodeCells k s nm a1 n1 c1 a2 0 c2 a3 0 c3 pos esc unit⟩, .int .i64 1] w fun e w' => e = .returned (.bool true) ∧ Below w.heap.size w w' := by
  subst hk
  have cC : Hid (∀ (lb : Array Value) (a : Option Addr) (c : Nat) (W : World), Calls Tryz.prog 50 #[.slice a 0 c, .func (.func 64) #[] lb] W fun e w' => e = .returned (.bool false) ∧ Below W.heap.size W w') := hide (fun lb a c W => containsFuncN 0 64 lb (fun _ _ => rfl) anyB lasts_any (fun _ => false) [] a c W (pred_nil _ _ _ _ _ _ _) AtR.nil (by simp))
  go_enter Tryz.func52, Tryz.ntmps52
  go_wp2_with fail
  refine name_world fun W hW => ?_
  have C1 : Chg [] w W := by subst hW; (repeat' (first | with_reducible exact Chg.refl _ _ | with_reducible refine Chg.alloc ?_ _ | with_reducible refine Chg.drew ?_ | with_reducible refine Chg.drewN ?_ _ | with_reducible refine Chg.set_ ?_ _ _ (by first | (simp; done) | (simp; omega) | omega)))
  have K : Blk W w.heap.size 61 #[.int .i64 1, .string s, .string nm, .slice a1 n1 c1, .slice a2 0 c2, .slice a3 0 c3, .int .i64 pos, .int .i64 esc, .int .i64 unit] := by subst hW; (repeat' (first | with_reducible exact Blk.new_ (by first | rfl | (simp; done) | (simp; omega)) | with_reducible refine Blk.alloc_ ?_ | with_reducible refine Blk.drew ?_ | with_reducible refine Blk.drewN ?_ _ | with_reducible refine Blk.far_ ?_ (by first | (simp; done) | (simp; omega) | omega) | with_reducible apply Blk.set_eq | rfl))
  clear hW
  refine (cC.out _ _ _ W).mono ?_
  rintro e w1 ⟨rfl, hb1⟩
  have C2 := hide (C1.trans (Chg.of_below (S := []) hb1) (by simp))
  have K1 := K.chg (Chg.of_below (S := []) hb1) (by simp)
  have k5 := K1.cell 5; simp at k5
  clear K K1 hb1 C1
  simp only [List.append, List.cons_append, List.nil_append] at *
  go_wp2_with fail
  refine (cC.out _ _ _ w1).mono ?_
  rintro e w2 ⟨rfl, hb2⟩
  go_wp2_with fail
  go_ret
  exact ⟨rfl, (C2.out.trans (Chg.of_below (S := []) hb2) (by simp)).bel⟩
set_option maxHeartbeats 2000000 in
set_option maxRecDepth 100000 in
theorem mayA_ex (U : World → Nat → Prop) (hU : Lasts U) (s nm : ByteArray) (a1 a2 a3 : Option Addr) (c1 c2 c3 : Nat) (pos unit : Int) (w : World) (h : AtR CallR 2 U w a1 eyP) :
    Calls Tryz.prog 52 #[.agg ⟨nodeCells 2 s nm a1 1 c1 a2 0 c2 a3 0 c3 pos 1 unit⟩, .int .i64 1] w fun e w' => e = .returned (.bool true) ∧ Below w.heap.size w w' := by
  have cC : Hid (∀ (lb : Array Value) (a : Option Addr) (c : Nat) (W : World), Calls Tryz.prog 50 #[.slice a 0 c, .func (.func 64) #[] lb] W fun e w' => e = .returned (.bool false) ∧ Below W.heap.size W w') := hide (fun lb a c W => containsFuncN 0 64 lb (fun _ _ => rfl) anyB lasts_any (fun _ => false) [] a c W (pred_nil _ _ _ _ _ _ _) AtR.nil (by simp))
  have cP := hide (fun W (hb : Below w.heap.size w W) => pipeMay_ex U hU a1 c1 W (h.on CallR.steady (hU.stays hb)))
  clear h
  go_enter Tryz.func52, Tryz.ntmps52
  go_wp2_with fail
  refine name_world fun W hW => ?_
  have C1 : Chg [] w W := by subst hW; (repeat' (first | with_reducible exact Chg.refl _ _ | with_reducible refine Chg.alloc ?_ _ | with_reducible refine Chg.drew ?_ | with_reducible refine Chg.drewN ?_ _ | with_reducible refine Chg.set_ ?_ _ _ (by first | (simp; done) | (simp; omega) | omega)))
  have K : Blk W w.heap.size 61 #[.int .i64 2, .string s, .string nm, .slice a1 1 c1, .slice a2 0 c2, .slice a3 0 c3, .int .i64 pos, .int .i64 1, .int .i64 unit] := by subst hW; (repeat' (first | with_reducible exact Blk.new_ (by first | rfl | (simp; done) | (simp; omega)) | with_reducible refine Blk.alloc_ ?_ | with_reducible refine Blk.drew ?_ | with_reducible refine Blk.drewN ?_ _ | with_reducible refine Blk.far_ ?_ (by first | (simp; done) | (simp; omega) | omega) | with_reducible apply Blk.set_eq | rfl))
  clear hW
  refine (cP.out W C1.bel).mono ?_
  rintro e w0 ⟨rfl, hb0⟩
  have C0 := C1.trans (Chg.of_below (S := []) hb0) (by simp)
  have K0 := K.chg (Chg.of_below (S := []) hb0) (by simp)
  have k4 := K0.cell 4; simp at k4
  clear K hb0 C1
  simp only [List.append, List.cons_append, List.nil_append] at *
  go_wp2_with fail
  refine (cC.out _ _ _ w0).mono ?_
  rintro e w1 ⟨rfl, hb1⟩
  have C2 := hide (C0.trans (Chg.of_below (S := []) hb1) (by simp))
  have K1 := K0.chg (Chg.of_below (S := []) hb1) (by simp)
  have k5 := K1.cell 5; simp at k5
  clear K0 K1 hb1 C0 k4
  go_wp2_with fail
  refine (cC.out _ _ _ w1).mono ?_
  rintro e w2 ⟨rfl, hb2⟩
  go_wp2_with fail
  go_ret
  exact ⟨rfl, (C2.out.trans (Chg.of_below (S := []) hb2) (by simp)).bel⟩
theorem nil0 (l : List (NT 0)) : l = [] := by
  cases l with
  | nil => rfl
  | cons x l => exact x.elim
theorem eyL_mem {x : NT 1} (hx : x ∈ eyL) : x = eyN1 ∨ x = eyN2 ∨ x = eyN3 := by
  have hx : x ∈ ([eyN1, eyN2, eyN3] : List (NT 1)) := hx
  cases hx with
  | head => exact .inl rfl
  | tail _ hx =>
    cases hx with
    | head => exact .inr (.inl rfl)
    | tail _ hx =>
      cases hx with
      | head => exact .inr (.inr rfl)
      | tail _ hx => cases hx
/-- Each of the example's nodes may be. -/
theorem mayN_ey (U : World → Nat → Prop) (hU : Lasts U) (x : NT 1) (hx : x ∈ eyL) (vs : List Value) (w : World) (h : NodeR 1 U w vs x) : Calls Tryz.prog 52 #[.agg ⟨vs⟩, .int .i64 1] w fun e w' => e = .returned (.bool true) ∧ Below w.heap.size w w' := by
  obtain ⟨a1, c1, a2, c2, a3, c3, rfl, q1, q2, q3⟩ := NodeR.parts h
  rcases eyL_mem hx with rfl | rfl | rfl
  · exact mayT_ex 1 _ _ _ _ _ _ _ _ _ _ _ _ w rfl
  · exact mayA_ex U hU _ _ a1 _ _ _ _ _ _ _ w q1
  · exact mayT_ex 1 _ _ _ _ _ _ _ _ _ _ _ _ w rfl
set_option maxRecDepth 100000 in
theorem mayC_ex (U : World → Nat → Prop) (hU : Lasts U) (x : NT 1) (hx : x ∈ eyL) (vs : List Value) (g : Nat) (a : Option Addr) (c : Nat) (w : World) (h : NodeR 1 U w vs x) (hg : w.cell? ⟨g, 0, none⟩ = some (.slice a 1 c)) (hl : g < w.heap.size) : Calls Tryz.prog 51 #[.agg ⟨vs⟩, .pointer (some ⟨g, 0, none⟩)] w fun e w' => e = .returned (.bool false) ∧ Below w.heap.size w w' := by
  have HC := hide (fun W (hb : Below w.heap.size w W) => mayN_ey U hU x hx vs W (NodeR.steady 1 _ _ _ _ (hU.stays hb) _ _ h))
  obtain ⟨k, s, nm, a1, n1, c1, a2, n2, c2, a3, n3, c3, pos, esc, unit, rfl⟩ := h.shape
  clear h hx
  go_enter Tryz.func51, Tryz.ntmps51
  go_wp2_with fail
  refine name_world fun W hW => ?_
  have C1 : Chg [] w W := by subst hW; (repeat' (first | with_reducible exact Chg.refl _ _ | with_reducible refine Chg.alloc ?_ _ | with_reducible refine Chg.drew ?_ | with_reducible refine Chg.drewN ?_ _ | with_reducible refine Chg.set_ ?_ _ _ (by first | (simp; done) | (simp; omega) | omega)))
  clear hW
  refine (HC.out W C1.bel).mono ?_
  rintro e w1 ⟨rfl, hb1⟩
  have C2 := hide (C1.trans (Chg.of_below (S := []) hb1) (by simp))
  clear hb1 C1
  go_wp2_with fail
  go_ret
  exact ⟨rfl, C2.out.bel⟩
end Go.Proofs.YtnepogddjinpoaaGreatDoor

namespace Go.Proofs.YtnepogddjinpoaaGreatDoor
open Go.RowKit
set_option linter.unusedVariables false
set_option linter.unusedSimpArgs false

theorem name_codeY {P : Program} {c : Code} {Q : Exit → Act → World → Prop} {a : Act} {w : World} (h : ∀ W, w = W → c.wp P Q a W) : c.wp P Q a w := h w rfl
def flatDepth (i : Nat) : Int := if i = 0 then 0 else 1
set_option maxHeartbeats 2000000 in
set_option maxRecDepth 100000 in
theorem depthP1 (U : World → Nat → Prop) (hU : Lasts U) (a : Option Addr) (c : Nat) (l : List (NN (NT 0))) (w : World) (h : AtR (NodeR 1) 9 U w a l) (hlen : l.length ≤ 1048576) :
    Calls Tryz.prog 49 #[.slice a l.length c] w fun e w' => e = .returned (.int .i64 (flatDepth l.length)) ∧ Below w.heap.size w w' := by
  have H := hide h
  clear h
  go_enter Tryz.func49, Tryz.ntmps49
  go_wp2_with fail
  go_loopw [3, 8] (fun nv iv wr => ∃ (i : Nat), iv = .int .i64 (i : Int) ∧ nv = .int .i64 (flatDepth i) ∧ i ≤ l.length ∧ Hid (Below w.heap.size w wr)) (fun _ iv _ => l.length - (intOf iv).toNat)
  case atStart => exact ⟨0, rfl, rfl, Nat.zero_le _, Below.refl _ _⟩
  case round =>
    obtain ⟨i, rfl, rfl, hil, hJ⟩ := hrel
    by_cases hlt : i < l.length
    · obtain ⟨x, hx⟩ : ∃ x, l[i]? = some x := ⟨_, List.getElem?_eq_getElem hlt⟩
      obtain ⟨g, o, vs, rfl, hg, _, _, hcell, hN⟩ := (H.out.on (NodeR.steady 1) (hU.stays hJ.out)) i x hx
      obtain ⟨a1, c1, a2, c2, a3, c3, rfl, q1, q2, q3⟩ := NodeR.parts (x := x) hN
      have f0 := hcell 0 _ rfl; have f1 := hcell 1 _ rfl; have f2 := hcell 2 _ rfl; have f3 := hcell 3 _ rfl; have f4 := hcell 4 _ rfl; have f5 := hcell 5 _ rfl; have f6 := hcell 6 _ rfl; have f7 := hcell 7 _ rfl; have f8 := hcell 8 _ rfl
      simp only [Nat.add_zero] at f0
      rw [nil0 x.body] at f4
      rw [nil0 x.els] at f5
      simp only [List.length_nil] at f4 f5
      have hji : (i : Int) < (l.length : Int) := by omega
      have hi9 : i < 1048576 := by omega
      have hnx : flatDepth (i + 1) = 1 := by unfold flatDepth; rw [if_neg (by omega)]
      have HLT := hide hlt
      clear hcell hN q1 q2 q3 hx hil hlt
      obtain ⟨d, hd⟩ : ∃ d, flatDepth i = d := ⟨_, rfl⟩
      have hd2 : d = 0 ∨ d = 1 := by unfold flatDepth at hd; split at hd <;> omega
      rw [hd]
      clear hd
      go_wp2_with fail
      refine name_codeY fun W hW => ?_
      have C1 : Chg [] wr W := by subst hW; (repeat' (first | with_reducible exact Chg.refl _ _ | with_reducible refine Chg.alloc ?_ _ | with_reducible refine Chg.drew ?_ | with_reducible refine Chg.drewN ?_ _ | with_reducible refine Chg.set_ ?_ _ _ (by first | (simp; done) | (simp; omega) | omega)))
      have K : Blk W wr.heap.size 61 #[.int .i64 x.k, .string ⟨x.s.toArray⟩, .string ⟨x.nm.toArray⟩, .slice a1 x.pipe.length c1, .slice a2 0 c2, .slice a3 0 c3, .int .i64 x.pos, .int .i64 x.esc, .int .i64 x.unit] := by subst hW; (repeat' (first | with_reducible exact Blk.new_ (by first | rfl | (simp; done) | (simp; omega)) | with_reducible refine Blk.alloc_ ?_ | with_reducible refine Blk.drew ?_ | with_reducible refine Blk.drewN ?_ _ | with_reducible refine Blk.far_ ?_ (by first | (simp; done) | (simp; omega) | omega) | with_reducible apply Blk.set_eq | rfl))
      have HC1 := hide C1
      have HK := hide K
      clear hW f0 f1 f2 f3 f4 f5 f6 f7 f8 C1 K
      rcases hd2 with rfl | rfl
      all_goals
        refine wp_region_below (W := W) (by kernel_rfl) (by kernel_rfl) (Below.refl _ _) ?_
        repeat (first
          | go_big_quiet_skip
          | (apply wpQuiet_one (by rfl)
             · intro w' hw'
               have K' := HK.out.chg (Chg.of_below (S := []) hw') (by simp)
               have y4 := K'.cell 4; have y5 := K'.cell 5
               simp at y4 y5
               clear K'
               go_simp
               first
                 | done
                 | (go_at_call 49; exact Calls.below_same hw' (depthP0 _ _ _))
                 | rfl
             · go_simp
               rfl))
        refine wpQuiet_nil ?_
        intro w' hw'
        go_wp2_with fail
        have hlt := HLT.out
        go_roundw
        case rel => exact ⟨i + 1, by go_num, by rw [hnx]; rfl, by omega, hide (hJ.out.trans ((HC1.out.trans (Chg.of_below (S := []) hw') (by simp)).bel.mono hJ.out.size))⟩
        case measure => simp [intOf]; omega
    · obtain rfl : i = l.length := by omega
      have hif : decide ((l.length : Int) < (l.length : Int)) = false := by simp
      clear hil hlt
      go_wp2_with fail
      go_ret
      exact ⟨rfl, hJ.out⟩
end Go.Proofs.YtnepogddjinpoaaGreatDoor

namespace Go.Proofs.YtnepogddjinpoaaGreatDoor
open Go.RowKit
set_option linter.unusedVariables false
set_option linter.unusedSimpArgs false

theorem setCells_chg {S : List Nat} {a : World} (b : Nat) (hb : a.heap.size ≤ b) : ∀ (vs : List Value) (o : Nat) (w : World), Chg S a w → Chg S a (w.setCells b o vs) := by
  intro vs
  induction vs with
  | nil => exact fun o w h => h
  | cons v r ih => exact fun o w h => ih (o + 1) _ (h.set_ _ _ (.inr hb))
theorem unit_info : (Tryz.prog.info? 59).map (fun i => (i.zero, i.size, i.bytes)) = some (some (.agg #[.string ⟨#[]⟩, .int .i64 0, .string ⟨#[]⟩, .string ⟨#[]⟩, .int .u8 0, .string ⟨#[]⟩, .string ⟨#[]⟩, .int .i64 0, .string ⟨#[]⟩, .int .i64 0, .string ⟨#[]⟩, .string ⟨#[]⟩, .int .u8 0, .string ⟨#[]⟩, .string ⟨#[]⟩, .int .i64 0, .string ⟨#[]⟩, .slice none 0 0]), 18, 248) := by kernel_rfl
theorem unit_row : ∃ d, Tryz.prog.underlying 59 = some d ∧ d.isRow = true := by
  have h : (Tryz.prog.underlying 59).map TypeDesc.isRow = some true := by kernel_rfl
  cases hq : Tryz.prog.underlying 59 with
  | none => rw [hq] at h; cases h
  | some d => rw [hq] at h; injection h with h; exact ⟨d, rfl, h⟩
theorem unit_size : (Tryz.prog.info? 59).map (·.size) = some 18 := by kernel_rfl
abbrev unitZ : Array Value := #[.string ⟨#[]⟩, .int .i64 0, .string ⟨#[]⟩, .string ⟨#[]⟩, .int .u8 0, .string ⟨#[]⟩, .string ⟨#[]⟩, .int .i64 0, .string ⟨#[]⟩, .int .i64 0, .string ⟨#[]⟩, .string ⟨#[]⟩, .int .u8 0, .string ⟨#[]⟩, .string ⟨#[]⟩, .int .i64 0, .string ⟨#[]⟩, .slice none 0 0]
theorem unit_alloc {o : Oper} (ho : o.op = .alloc 59) (a : Act) (w : World) : (execOp a.eval o).run Tryz.prog w = .ok (.value (.pointer (some ⟨w.heap.size, 0, none⟩))) (w.alloc (.cells unitZ 59)) := by
  unfold execOp
  rw [ho]
  simp [go_sem]
theorem wpList_unit {ops : Array Oper} {rest : List Oper} {o1 o2 o3 : Oper} {a : Act} {w : World} {Q : Exit → Act → World → Prop} (t0 t1 t2 : Tmp)
    (n1 : o1.guard = none) (n2 : o2.guard = none) (n3 : o3.guard = none) (p1 : o1.op = .load 59 (.tmp t0)) (p2 : o2.op = .alloc 59) (p3 : o3.op = .store 59 (.tmp t2) (.tmp t1)) (q1 : o1.dst = some t1) (q2 : o2.dst = some t2) (q3 : o3.dst = none)
    (b o : Nat) (hx : a.tmps[t0]? = some (.pointer (some ⟨b, o, none⟩))) (cs : List Value) (hc : w.rangeAt b o cs) (hl : cs.length = 18) (h1 : ∀ v ∈ cs, v.oneCell' = true) (ht : t1 ≠ t2) (hs1 : t1 < a.tmps.size) (hs2 : t2 < a.tmps.size)
    (h : ∀ W, Chg [] w W → W.rangeAt w.heap.size 0 cs → w.heap.size < W.heap.size → wpList Tryz.prog ops Q rest ((a.put (some t1) (.agg cs.toArray)).put (some t2) (.pointer (some ⟨w.heap.size, 0, none⟩))) W) : wpList Tryz.prog ops Q (o1 :: o2 :: o3 :: rest) a w := by
  obtain ⟨d, hd, hr⟩ := unit_row
  refine wpList_load_mid n1 _ _ p1 b o (by simp [Act.eval, hx]) cs d hc hd hr (by rw [unit_size, hl]) ?_
  rw [q1]
  refine Go.Great.wpList_runTo n2 _ q2 _ _ (unit_alloc p2 _ _) ?_
  have htr : (w.alloc (.cells unitZ 59)).there w.heap.size 0 cs.length := by
    intro j hj
    have hB : Blk (w.alloc (.cells unitZ 59)) w.heap.size 59 unitZ := Blk.new w _ _
    refine ⟨?_, ?_⟩
    · rw [Nat.zero_add, hB.cell j]
      rw [hl] at hj
      rw [Array.getElem?_eq_getElem (by exact hj)]
      rfl
    · rw [Nat.zero_add]; exact hB.frozen j
  refine wpList_store_mid n3 _ _ _ p3 w.heap.size 0 cs.toArray ?_ ?_ (by simpa using htr) (by rw [unit_size]; simp [hl]) (all_oneCell_toArray h1) ?_
  · simp [Act.eval, Act.put, hs2]
  · simp [Act.eval, Act.put, hs1, hs2, ht, Ne.symm ht]
  · rw [q3]
    refine h _ ?_ ?_ ?_
    · exact setCells_chg w.heap.size (Nat.le_refl _) _ 0 _ ((Chg.refl [] w).alloc _)
    · exact World.rangeAt_setCells_same _ _ _ _ htr
    · exact World.block_lt_of_cell? _ _ (World.rangeAt_setCells_same _ _ _ _ htr 0 _ (List.getElem?_eq_getElem (by omega)))
end Go.Proofs.YtnepogddjinpoaaGreatDoor
