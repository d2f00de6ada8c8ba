/-
  PLAIN LAWS of many texts, in one.
-/
import Derived.Test.YtnepogddjinpoaaGreatDoorM10
import Derived.Test.YtnepogddjinpoaaGreatDoorP13
import Derived.Test.YtnepogddjinpoaaGreatDoorM4
import Derived.Test.YtnepogddjinpoaaGreatDoorClone
namespace Go.Proofs.YtnepogddjinpoaaGreatDoor
open Go.RowKit
set_option linter.unusedVariables false
set_option linter.unusedSimpArgs false

theorem at_one {α : Type} {R : Rel α} {size : Nat} {U : World → Nat → Prop} {w : World} {g : Nat} {vs : List Value} {x : α} (h : AtB w g vs) (hU : U w g) (hl : vs.length = size) (hR : R U w vs x) : AtR R size U w (some ⟨g, 0, none⟩) [x] := by
  intro j y hy
  cases j with
  | zero =>
    simp at hy
    subst hy
    exact ⟨g, 0, vs, rfl, h.lt, hU, hl, fun t u ht => by simp only [Nat.zero_mul, Nat.zero_add]; exact h.cell t u ht, hR⟩
  | succ j => simp at hy
/-- The example's nodes as they lie. -/
theorem ex_atR {w : World} {N gn : Nat} {vp : Value} (hn : AtB w gn (exNodesE vp)) (hp : ExPipe w N vp) : AtR (NodeR 1) 9 anyB w (some ⟨gn, 0, none⟩) eyL := by
  obtain ⟨g, c, g1, rfl, _, _, _, h1, h2⟩ := hp.some_
  have hA : AtR ArgR 5 anyB w (some ⟨g1, 0, none⟩) [eyA] := at_one h2 trivial rfl ⟨none, 0, rfl, AtR.nil⟩
  have hC : AtR CallR 2 anyB w (some ⟨g, 0, none⟩) eyP := at_one h1 trivial rfl ⟨_, 1, rfl, hA⟩
  intro j x hx
  match j, hx with
  | 0, hx =>
    obtain rfl : eyN1 = x := Option.some.inj (show some eyN1 = some x from hx)
    refine ⟨gn, 0, _, rfl, hn.lt, trivial, rfl, fun t u ht => ?_, NodeR.made (x := eyN1) (a1 := none) (a2 := none) (a3 := none) (c1 := 0) (c2 := 0) (c3 := 0) AtR.nil AtR.nil AtR.nil⟩
    have ht9 : t < 9 := by have := (List.getElem?_eq_some_iff.1 ht).1; exact this
    have := hn.cell t u (by
      show (exNodesE _)[t]? = some u
      rw [← ht]
      match t, ht9 with
      | 0, _ | 1, _ | 2, _ | 3, _ | 4, _ | 5, _ | 6, _ | 7, _ | 8, _ => rfl)
    simpa using this
  | 1, hx =>
    obtain rfl : eyN2 = x := Option.some.inj (show some eyN2 = some x from hx)
    refine ⟨gn, 0, _, rfl, hn.lt, trivial, rfl, fun t u ht => ?_, NodeR.made (x := eyN2) (a1 := some ⟨g, 0, none⟩) (a2 := none) (a3 := none) (c1 := c) (c2 := 0) (c3 := 0) hC AtR.nil AtR.nil⟩
    have ht9 : t < 9 := by have := (List.getElem?_eq_some_iff.1 ht).1; exact this
    have := hn.cell (9 + t) u (by
      show (exNodesE _)[9 + t]? = some u
      rw [← ht]
      match t, ht9 with
      | 0, _ | 1, _ | 2, _ | 3, _ | 4, _ | 5, _ | 6, _ | 7, _ | 8, _ => rfl)
    simpa using this
  | 2, hx =>
    obtain rfl : eyN3 = x := Option.some.inj (show some eyN3 = some x from hx)
    refine ⟨gn, 0, _, rfl, hn.lt, trivial, rfl, fun t u ht => ?_, NodeR.made (x := eyN3) (a1 := none) (a2 := none) (a3 := none) (c1 := 0) (c2 := 0) (c3 := 0) AtR.nil AtR.nil AtR.nil⟩
    have ht9 : t < 9 := by have := (List.getElem?_eq_some_iff.1 ht).1; exact this
    have := hn.cell (18 + t) u (by
      show (exNodesE _)[18 + t]? = some u
      rw [← ht]
      match t, ht9 with
      | 0, _ | 1, _ | 2, _ | 3, _ | 4, _ | 5, _ | 6, _ | 7, _ | 8, _ => rfl)
    simpa using this
  | j + 3, hx => exact absurd (show (none : Option (NT 1)) = some x from hx) (by simp)
theorem eyL_len : eyL.length ≤ 1048576 := by
  have h : eyL.length = 3 := rfl
  rw [h]
  omega
theorem check_depth (W : World) (gn cn : Nat) (hL : AtR (NodeR 1) 9 anyB W (some ⟨gn, 0, none⟩) eyL) : Calls Tryz.prog 49 #[.slice (some ⟨gn, 0, none⟩) 3 cn] W fun e w' => e = .returned (.int .i64 1) ∧ Below W.heap.size W w' :=
  depthP1 anyB lasts_any (some ⟨gn, 0, none⟩) cn eyL W hL eyL_len
theorem check_pred (W : World) (gu cu g : Nat) (hg : W.cell? ⟨g, 0, none⟩ = some (.slice (some ⟨gu, 0, none⟩) 1 cu)) (hl : g < W.heap.size) : PredA Tryz.prog 51 #[.pointer (some ⟨g, 0, none⟩)] (NodeR 1) anyB (fun _ => false) eyL W := by
  intro W' vs x hb' hx hR
  have h := mayC_ex anyB lasts_any x hx vs g (some ⟨gu, 0, none⟩) cu W' hR ((hb'.cell (p := ⟨g, 0, none⟩) hl).trans hg) (Nat.lt_of_lt_of_le hl hb'.size)
  obtain ⟨k, s, nm, a1, n1, c1, a2, n2, c2, a3, n3, c3, pos, esc, unit, rfl⟩ := hR.shape
  rw [List.append_toArray]
  exact h
set_option maxRecDepth 100000 in
theorem check_cont (W : World) (gu cu gn cn g : Nat) (hL : AtR (NodeR 1) 9 anyB W (some ⟨gn, 0, none⟩) eyL) (hg : W.cell? ⟨g, 0, none⟩ = some (.slice (some ⟨gu, 0, none⟩) 1 cu)) (hl : g < W.heap.size) :
    Calls Tryz.prog 50 #[.slice (some ⟨gn, 0, none⟩) 3 cn, .func (.func 51) #[] #[.pointer (some ⟨g, 0, none⟩)]] W fun e w' => e = .returned (.bool false) ∧ Below W.heap.size W w' :=
  containsFuncN 1 51 #[.pointer (some ⟨g, 0, none⟩)] (fun _ _ => rfl) anyB lasts_any (fun _ => false) eyL (some ⟨gn, 0, none⟩) cn W (check_pred W gu cu g hg hl) hL eyL_len
theorem unitE_one (gn cn : Nat) : ∀ v ∈ unitE gn cn, v.oneCell' = true := by intro v hv; simp only [unitE, List.mem_cons, List.not_mem_nil, or_false] at hv; rcases hv with rfl | rfl | rfl | rfl | rfl | rfl | rfl | rfl | rfl | rfl | rfl | rfl | rfl | rfl | rfl | rfl | rfl | rfl <;> rfl
theorem AtB.range {w : World} {g : Nat} {cs : List Value} (h : AtB w g cs) : w.rangeAt g 0 cs := fun j v hv => by rw [Nat.zero_add]; exact h.cell j v hv
set_option maxHeartbeats 4000000 in
set_option maxRecDepth 100000 in
theorem check_ex (w : World) (gu cu gn cn : Nat) (hu : AtB w gu (unitE gn cn)) (hL : AtR (NodeR 1) 9 anyB w (some ⟨gn, 0, none⟩) eyL) :
    Calls Tryz.prog 29 #[.slice (some ⟨gu, 0, none⟩) 1 cu] w fun e w' => e = .returned (.int .i64 0) ∧ Below w.heap.size w w' := by
  have cD := hide (fun W (hb : Below w.heap.size w W) => check_depth W gn cn (hL.on (NodeR.steady 1) (lasts_any.stays hb)))
  have cC := hide (fun W g (hb : Below w.heap.size w W) (hg : W.cell? ⟨g, 0, none⟩ = some (.slice (some ⟨gu, 0, none⟩) 1 cu)) (hl : g < W.heap.size) => check_cont W gu cu gn cn g (hL.on (NodeR.steady 1) (lasts_any.stays hb)) hg hl)
  have HU := hide hu
  clear hL hu
  go_enter Tryz.func29, Tryz.ntmps29
  go_wp2_with fail
  refine name_codeY fun W0 hW0 => ?_
  have C0 : Chg [] w W0 := by subst hW0; (repeat' (first | with_reducible exact Chg.refl _ _ | with_reducible refine Chg.alloc ?_ _ | with_reducible refine Chg.drew ?_ | with_reducible refine Chg.drewN ?_ _ | with_reducible refine Chg.set_ ?_ _ _ (by first | (simp; done) | (simp; omega) | omega)))
  have K0 : Blk W0 w.heap.size 47 #[.slice (some ⟨gu, 0, none⟩) 1 cu] := by subst hW0; (repeat' (first | with_reducible exact Blk.new_ (by first | rfl | (simp; done) | (simp; omega)) | with_reducible refine Blk.alloc_ ?_ | with_reducible refine Blk.drew ?_ | with_reducible refine Blk.drewN ?_ _ | with_reducible refine Blk.far_ ?_ (by first | (simp; done) | (simp; omega) | omega) | with_reducible apply Blk.set_eq | rfl))
  have hU0 := hide (HU.out.on C0.bel).range
  clear hW0
  refine wp_loop_rounds 2 ?_
  rw [rounds_succ]
  go_wp2_with (refine wpList_unit 14 15 4 rfl rfl rfl rfl rfl rfl rfl rfl rfl gu 0 (by simp) (unitE gn cn) hU0.out rfl (unitE_one gn cn) (by decide) (by simp) (by simp) ?_; intro W1 CH1 R1 L1; have v17 := R1 17 _ rfl; simp only [Nat.zero_add] at v17; clear R1)
  refine (cD.out _ (C0.trans CH1 (by simp)).bel).mono ?_
  rintro e w1 ⟨rfl, hb1⟩
  have C1 := (C0.trans CH1 (by simp)).trans (Chg.of_below (S := []) hb1) (by simp)
  have K1 := (K0.chg CH1 (by simp)).chg (Chg.of_below (S := []) hb1) (by simp)
  have k0 := K1.cell 0; simp at k0
  have hU1 := hide (HU.out.on C1.bel).range
  clear K0 C0 hb1 CH1 L1 v17
  go_wp2_with fail
  rw [rounds_succ]
  go_wp2_with fail
  refine wp_loop_rounds 2 ?_
  rw [rounds_succ]
  go_wp2_with (refine wpList_unit 25 26 6 rfl rfl rfl rfl rfl rfl rfl rfl rfl gu 0 (by simp) (unitE gn cn) hU1.out rfl (unitE_one gn cn) (by decide) (by simp) (by simp) ?_; intro W2 CH2 R2 L2; have v17 := R2 17 _ rfl; simp only [Nat.zero_add] at v17; clear R2)
  have C2 := C1.trans CH2 (by simp)
  have K2 := K1.chg CH2 (by simp)
  have k2 := K2.cell 0; simp at k2
  have hl2 := K2.lt
  refine (cC.out _ _ C2.bel k2 hl2).mono ?_
  rintro e w3 ⟨rfl, hb3⟩
  have C5 := hide (C2.trans (Chg.of_below (S := []) hb3) (by simp))
  clear K1 K2 k0 k2 hl2 C1 C2 hb3 CH2 L2 v17
  go_wp2_with fail
  rw [rounds_succ]
  go_wp2_with fail
  go_ret
  exact ⟨rfl, C5.out.bel⟩
end Go.Proofs.YtnepogddjinpoaaGreatDoor

namespace Go.Proofs.YtnepogddjinpoaaGreatDoor
open Go.RowKit
set_option linter.unusedVariables false
set_option linter.unusedSimpArgs false

set_option maxHeartbeats 2000000 in
set_option maxRecDepth 100000 in
theorem clone_unit (w : World) (g c : Nat) (cs : List Value) (h : AtB w g cs) (hl : cs.length = 18) (h1 : ∀ v ∈ cs, v.oneCell' = true) :
    Calls Tryz.prog 30 #[.slice (some ⟨g, 0, none⟩) 1 c] w fun e w' => ∃ v, e = .returned v ∧ w'.ownsRow w.heap.size 59 18 v 1 cs ∧ Below w.heap.size w w' := by
  obtain ⟨i0, hi, hz0, hz1, hz2⟩ := info_parts unit_info
  have hq := fun (W : World) (a : Option Addr) (l c : Nat) => run_eql_slice_nil (P := Tryz.prog) W 47 59 a l c Tryz.underlying47
  go_enter Tryz.func30, Tryz.ntmps30
  go_wp2_with (at_builtin; refine wpList_append_own _ rfl _ _ 47 rfl w.heap.size 59 i0 (.agg unitZ) 18 248 Tryz.underlying47 hi hz0 hz1 hz2 rfl (by decide) _ 0 _ rfl (World.ownsRow_lit w #[] 0 (Nat.le_refl _) (by decide) rfl) ⟨g, 0, none⟩ 1 c cs rfl (by rw [hl]) (by intro j u hj; rw [zaddE]; exact (World.cell?_alloc_lt w _ ⟨g, j, none⟩ h.lt).trans (h.cell j u hj)) h1 (by unfold maxLen; omega) (by omega) (by simp) ?_; intro v1 w1 hown1 hgrow1 _)
  go_ret
  refine ⟨_, rfl, by simpa using hown1, ((Below.refl _ _).alloc (Nat.le_refl _) _).grown hgrow1 (by simp) (fun k e => ?_)⟩
  injection e with e
  have e : w.heap.size = k := e
  omega
def TrueR : Rel Unit := fun _ _ _ _ => True
theorem TrueR.steady : Steady TrueR := fun _ _ _ _ _ _ _ h => h
theorem row_unit {N : Nat} {w : World} {v : Value} {cs : List Value} (h : w.ownsRow N 59 18 v 1 cs) (hl : cs.length = 18) : RowR TrueR 18 N 59 w v [cs] [()] :=
  ⟨by simpa using h, by intro c hc; simp at hc; subst hc; exact hl, rfl, fun _ _ _ _ _ => trivial⟩
theorem lasts_freshF (N : Nat) : Lasts (freshB N) := fun w w' b hb hl ⟨h1, cs, t, h2⟩ => ⟨h1, cs, t, (hb.block b hl).trans h2⟩
theorem mass_ey : sumBy (massN 1) eyL ≤ 1048576 := by
  have h : sumBy (massN 1) eyL = 8 := by decide
  rw [h]; omega
theorem all_ey (U : World → Nat → Prop) (hU : Lasts U) (a : Option Addr) (c : Nat) (w : World) (h : AtR (NodeR 1) 9 U w a eyL) : Calls Tryz.prog 27 #[.slice a 3 c] w fun e w' => ∃ A1 c1 es, e = .returned (.slice A1 3 c1) ∧ RowR (NodeR 1) 9 w.heap.size 61 w' (.slice A1 3 c1) es eyL ∧ Below w.heap.size w w' := all_any 1 U hU a c eyL w h mass_ey
/-- What the fold of the example is. -/
def FoldEx (w : World) (e : Ending) (w' : World) : Prop := ∃ gv cv gr cr, e = .returned (.tuple #[.slice (some ⟨gv, 0, none⟩) 1 cv, .int .i64 0]) ∧ w'.cell? ⟨gv, 17, none⟩ = some (.slice (some ⟨gr, 0, none⟩) 1 cr) ∧ w'.cell? ⟨gr, 1, none⟩ = some (.string ⟨#[97, 98, 99]⟩) ∧ gv < w'.heap.size ∧ gr < w'.heap.size ∧ Below w.heap.size w w'
theorem row_one {N : Nat} {w : World} {A : Option Addr} {c : Nat} {es : List (List Value)} (h : RowR (NodeR 1) 9 N 61 w (.slice A 1 c) es [eyR]) : ∃ g, A = some ⟨g, 0, none⟩ ∧ N ≤ g ∧ g < w.heap.size ∧ w.cell? ⟨g, 1, none⟩ = some (.string ⟨#[97, 98, 99]⟩) := by
  have hl : es.length = 1 := h.len
  match es, hl with
  | [cs], _ =>
    have hown := h.own
    obtain ⟨g, c', hv, _, hg, hat⟩ := AtB.of_own hown (by simp)
    injection hv with e1 e2 e3
    refine ⟨g, e1, hg, hat.lt, ?_⟩
    obtain ⟨a1, c1, a2, c2, a3, c3, rfl, _, _, _⟩ := NodeR.parts (n := 0) (x := eyR) (h.each 0 cs eyR rfl rfl)
    exact hat.cell 1 _ rfl
set_option maxHeartbeats 2000000 in
set_option maxRecDepth 100000 in
theorem fold_ex (w : World) (gu cu gn cn : Nat) (hu : AtB w gu (unitE gn cn)) (hL : AtR (NodeR 1) 9 anyB w (some ⟨gn, 0, none⟩) eyL) (hT : Lib.Utf8Tabs 1 2 w) :
    Calls Tryz.prog 16 #[.slice (some ⟨gu, 0, none⟩) 1 cu] w (FoldEx w) := by
  have cK := hide (check_ex w gu cu gn cn hu hL)
  have cU := hide (fun W (hb : Below w.heap.size w W) => clone_unit W gu cu (unitE gn cn) (hu.on hb) rfl (unitE_one gn cn))
  have cA := hide (fun W (hb : Below w.heap.size w W) => all_ey anyB lasts_any (some ⟨gn, 0, none⟩) cn W (hL.on (NodeR.steady 1) (lasts_any.stays hb)))
  have HT := hide hT
  clear hu hL hT
  go_enter Tryz.func16, Tryz.ntmps16
  go_wp2_with fail
  refine cK.out.mono ?_
  rintro e w1 ⟨rfl, hb1⟩
  go_wp2_with fail
  refine (cU.out w1 hb1).mono ?_
  rintro e w2 ⟨v, rfl, hown, hb2⟩
  have HB2 := hide (hb1.trans (hb2.mono hb1.size))
  have s1 := hb1.size
  have s2 := hb2.size
  obtain ⟨gv, cv, rfl, _, hgv, hatv⟩ := AtB.of_own hown (by decide)
  have HR2 := hide (row_unit hown rfl)
  have v17 := hatv.cell 17 _ rfl
  have lv := hatv.lt
  clear hown hatv hb1 hb2
  go_wp2_with fail
  refine wp_loop_rounds 2 ?_
  rw [rounds_succ]
  go_wp2_with fail
  refine (cA.out w2 HB2.out).mono ?_
  rintro e w3 ⟨A1, c1, es1, rfl, hR3, hb3⟩
  have HB3 := hide (HB2.out.trans (hb3.mono (by omega)))
  have s3 := hb3.size
  have HR3 := hide (HR2.out.below TrueR.steady hb3)
  have hat3 := hide (hR3.at_ (NodeR.steady 1) rfl (Nat.le_refl _))
  clear hR3 hb3
  go_wp2_with fail
  refine (nodes_ey (freshB w2.heap.size) (lasts_freshF _) A1 c1 w3 hat3.out (Utf8Tabs_below HT.out HB3.out)).mono ?_
  rintro e w4 ⟨A2, c2, es2, rfl, hR4, hb4⟩
  have HB4 := hide (HB3.out.trans (hb4.mono (by omega)))
  have s4 := hb4.size
  have HR5 := HR3.out.below TrueR.steady hb4
  have z17 := HR5.frozen 17
  have x17 := HR5.cell (r := 0) (c := unitE gn cn) (t := 17) rfl rfl
  simp only [Nat.zero_mul, Nat.zero_add] at x17
  obtain ⟨gr, rfl, hgr, hlr, hcr⟩ := row_one hR4
  have hne : gr ≠ gv := by omega
  have l4 : gv < w4.heap.size := by omega
  clear hR4 hb4 HR5 v17
  go_wp2_with fail
  rw [rounds_succ]
  go_wp2_with fail
  go_ret2
  refine ⟨gv, cv, gr, c2, rfl, ?_, ?_, ?_, ?_, ?_⟩
  · exact World.cell?_setCell_same w4 ⟨gv, 17, none⟩ _ x17
  · rw [World.cell?_setCell_other w4 ⟨gv, 17, none⟩ ⟨gr, 1, none⟩ _ (by intro q; injection q with q _; exact hne q.symm)]
    exact hcr
  · simpa using l4
  · simpa using hlr
  · exact HB4.out.setCell (p := ⟨gv, 17, none⟩) (by show w.heap.size ≤ gv; omega) _
end Go.Proofs.YtnepogddjinpoaaGreatDoor

namespace Go.Proofs.YtnepogddjinpoaaGreatDoor
open Go.RowKit
set_option linter.unusedVariables false
set_option linter.unusedSimpArgs false

theorem num_ey (k : Int) (w : World) : Calls Tryz.prog 17 #[.int .i64 k] w fun e w' => e = .returned (.int .i64 k) ∧ w = w' := by
  go_enter Tryz.func17, Tryz.ntmps17
  go_wp2_with fail
  go_ret
  exact ⟨rfl, rfl⟩
set_option maxHeartbeats 1000000 in
set_option maxRecDepth 100000 in
theorem alive41 (w : World) (hT : Lib.Utf8Tabs 1 2 w) : Calls Tryz.prog 6 #[] w fun e w' => e = .returned (.bool true) ∧ Below w.heap.size w w' := by
  have HT := hide hT
  clear hT
  go_enter Tryz.func6, Tryz.ntmps6
  go_wp2_with fail
  refine (compile_ex w).mono ?_
  rintro e w1 ⟨gu, cu, gn, cn, vp, rfl, D, hb1⟩
  have cF := hide (fold_ex w1 gu cu gn cn D.u (ex_atR D.n D.p) (Utf8Tabs_below HT.out hb1))
  have HB1 := hide hb1
  have s1 := hb1.size
  clear D hb1
  go_wp2_with fail
  refine cF.out.mono ?_
  rintro e w2 ⟨gv, cv, gr, cr, rfl, hc1, hc2, hl1, hl2, hb2⟩
  have HB2 := hide (HB1.out.trans (hb2.mono s1))
  have e3 : ((⟨#[97, 98, 99]⟩ : ByteArray) == ⟨#[97, 98, 99]⟩) = true := by decide +kernel
  clear hb2
  go_wp2_with (go_at_call 17; refine (num_ey _ _).mono ?_; rintro e w3 ⟨rfl, rfl⟩)
  go_ret
  exact ⟨rfl, HB2.out⟩
end Go.Proofs.YtnepogddjinpoaaGreatDoor
