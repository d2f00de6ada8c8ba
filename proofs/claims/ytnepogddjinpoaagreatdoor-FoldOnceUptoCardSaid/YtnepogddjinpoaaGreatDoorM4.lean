/-
  PLAIN LAWS of many texts, in one.
-/
import Derived.Test.YtnepogddjinpoaaGreatDoorM10
import Derived.Test.YtnepogddjinpoaaGreatDoorP16
import Derived.Test.YtnepogddjinpoaaGreatDoorP12
import Derived.Test.YtnepogddjinpoaaGreatDoorP15
import Derived.Deep.RegionWith
import Derived.BigRegion
namespace Go.Proofs.YtnepogddjinpoaaGreatDoor
open Go.RowKit
set_option linter.unusedVariables false
set_option linter.unusedSimpArgs false

/-- What fold.node gives where it is one node. -/
def NodeTo (n : Nat) (w : World) (y : NT n) (e : Ending) (w' : World) : Prop := ∃ g c k s nm a1 n1 c1 a2 n2 c2 a3 n3 c3 pos esc unit, e = .returned (.slice (some ⟨g, 0, none⟩) 1 c) ∧ AtB w' g (nodeCells k s nm a1 n1 c1 a2 n2 c2 a3 n3 c3 pos esc unit) ∧ NodeR n (freshB w.heap.size) w' (nodeCells k s nm a1 n1 c1 a2 n2 c2 a3 n3 c3 pos esc unit) y ∧ Below w.heap.size w w'
set_option maxHeartbeats 4000000 in
set_option maxRecDepth 100000 in
theorem nodes_step (m : Nat) (y : NT (m + 1) → NT (m + 1)) (U : World → Nat → Prop) (hU : Lasts U) (a : Option Addr) (c : Nat) (l : List (NT (m + 1))) (w : World) (h : AtR (NodeR (m + 1)) 9 U w a l) (hlen : l.length ≤ 1048576) (htx : sumBy (fun x : NN (NT m) => x.s.length) (l.map y) ≤ 1048576)
    (hnode : ∀ x ∈ l, ∀ vs W, Below w.heap.size w W → NodeR (m + 1) U W vs x → Calls Tryz.prog 53 #[.agg ⟨vs⟩] W (NodeTo (m + 1) W (y x))) : Calls Tryz.prog 31 #[.slice a l.length c] w (BesideOf m w.heap.size w (l.map y)) := by
  obtain ⟨i0, hi, hz0, hz1, hz2⟩ := info_parts info_nodeO
  have H := hide h; have HT := hide htx; have HF := hide hnode
  clear h htx hnode
  go_enter Tryz.func31, Tryz.ntmps31
  go_wp2_with fail
  go_loopw [3, 8] (fun ov iv wr => ∃ (j : Nat) (A0 : Option Addr) (cp : Nat) (es : List (List Value)) (xs : List (NT (m + 1))), iv = .int .i64 (j : Int) ∧ ov = .slice A0 j cp ∧ j ≤ l.length ∧ xs.length = j ∧ Hid (xs = (l.map y).take j) ∧ Hid (Below w.heap.size w wr ∧ RowR (NodeR (m + 1)) 9 w.heap.size 61 wr (.slice A0 xs.length cp) es xs)) (fun _ iv _ => l.length - (intOf iv).toNat)
  case atStart => exact ⟨0, _, _, [], [], rfl, rfl, Nat.zero_le _, rfl, rfl, ⟨Below.refl _ _, RowR.nil _ _ _ _ _⟩⟩
  case round =>
    obtain ⟨j, A0, cp, es, xs, rfl, rfl, hjl, hxl, hxs, hJ⟩ := hrel
    by_cases hlt : j < l.length
    · obtain ⟨z, hz⟩ : ∃ z, l[j]? = some z := ⟨_, List.getElem?_eq_getElem hlt⟩
      obtain ⟨g, o, vs, rfl, hg, _, _, hcell, hN⟩ := (H.out.on (NodeR.steady (m + 1)) (hU.stays hJ.out.1)) j z hz
      have HN := hide hN
      obtain ⟨k, s, nm, a1, n1, c1, a2, n2, c2, a3, n3, c3, pos, esc, unit, rfl⟩ := hN.shape
      have f0 := hcell 0 _ rfl; have f1 := hcell 1 _ rfl; have f2 := hcell 2 _ rfl; have f3 := hcell 3 _ rfl; have f4 := hcell 4 _ rfl; have f5 := hcell 5 _ rfl; have f6 := hcell 6 _ rfl; have f7 := hcell 7 _ rfl; have f8 := hcell 8 _ rfl
      simp only [Nat.add_zero] at f0
      have hji : (j : Int) < (l.length : Int) := by omega
      have cO := hide (fun (W' : World) (h : Below wr.heap.size wr W') => HF.out z (List.mem_of_getElem? hz) _ W' (hJ.out.1.trans (h.mono hJ.out.1.size)) (NodeR.steady (m + 1) _ _ _ _ (hU.stays h) _ _ HN.out))
      have hnx := hide (show xs ++ [y z] = (l.map y).take (j + 1) by rw [hxs.out, List.take_add_one, List.getElem?_map, hz]; rfl)
      have hel : es.length = j := hJ.out.2.len.trans hxl
      clear hcell hz hN HN
      go_wp2_with fail
      refine (cO.out _ (Chg.bel (by (repeat' (first | with_reducible exact Chg.refl _ _ | with_reducible refine Chg.alloc ?_ _ | with_reducible refine Chg.drew ?_ | with_reducible refine Chg.drewN ?_ _ | with_reducible refine Chg.set_ ?_ _ _ (by first | (simp; done) | (simp; omega) | omega)))))).mono ?_
      rintro e' wP ⟨gP, cP, k', s', nm', a1', n1', c1', a2', n2', c2', a3', n3', c3', pos', esc', unit', rfl, hatP, hVP, hbP⟩
      have HBP := hide (below_step (a := wr) (Chg.bel (by (repeat' (first | with_reducible exact Chg.refl _ _ | with_reducible refine Chg.alloc ?_ _ | with_reducible refine Chg.drew ?_ | with_reducible refine Chg.drewN ?_ _ | with_reducible refine Chg.set_ ?_ _ _ (by first | (simp; done) | (simp; omega) | omega))))) hbP)
      have hsW : wr.heap.size ≤ (wr.alloc (.cells #[.int .i64 k, .string s, .string nm, .slice a1 n1 c1, .slice a2 n2 c2, .slice a3 n3 c3, .int .i64 pos, .int .i64 esc, .int .i64 unit] 61)).heap.size := by simp
      have HVP := hide hVP
      have hownP := (hJ.out.2.below (NodeR.steady (m + 1)) HBP.out).own
      rw [hel, hxl] at hownP
      have hPz := HBP.out.size
      have hwz := hJ.out.1.size
      clear hVP hbP
      go_wp2_with (at_builtin; refine wpList_append_lies _ rfl _ _ 41 rfl w.heap.size 61 i0 (.agg #[.int .i64 0, .string ⟨#[]⟩, .string ⟨#[]⟩, .slice none 0 0, .slice none 0 0, .slice none 0 0, .int .i64 0, .int .i64 0, .int .i64 0]) 9 136 Tryz.underlying41 hi hz0 hz1 hz2 rfl (by decide) (.slice A0 j cp) j _ rfl hownP ⟨gP, 0, none⟩ 1 cP (nodeCells k' s' nm' a1' n1' c1' a2' n2' c2' a3' n3' c3' pos' esc' unit') rfl rfl (fun j u hj => by rw [zaddE]; exact hatP.cell j u hj) (by intro u hu; simp at hu; rcases hu with rfl | rfl | rfl | rfl | rfl | rfl | rfl | rfl | rfl <;> rfl) (by omega) (by unfold maxLen; omega) (by omega) (by omega) _ rfl ?_)
      intro g4 cp4 w4 hown4 hgrow4 hat4 hlt4
      have hIn := hide ((hJ.out.2.below (NodeR.steady (m + 1)) HBP.out).snoc (NodeR.steady (m + 1)) (c := nodeCells k' s' nm' a1' n1' c1' a2' n2' c2' a3' n3' c3' pos' esc' unit') (y := y z) rfl HVP.out (fun q hq => by have := (hJ.out.2.own.lt q hq).2; simp; omega) (by simp; omega) (Below.refl wP.heap.size wP) (by rw [hxl]; exact hgrow4) (by rw [hel]; exact hown4) (by rw [hxl]; exact hat4))
      have hBn := hide ((hJ.out.1.trans (HBP.out.mono hwz)).grown hgrow4 (by omega) (fun q hq => (hownP.lt q hq).1))
      rw [hel] at hIn
      clear hown4 hgrow4 hat4 hownP hel hatP
      go_wp2_with fail
      go_roundw
      case rel => exact ⟨j + 1, _, _, _, _, by go_num, rfl, by omega, by simp [hxl], hnx.out, hide (And.intro hBn.out (by simpa [hxl] using hIn.out))⟩
      case measure => simp [intOf]; omega
    · obtain rfl : j = l.length := by omega
      have hif : decide ((l.length : Int) < (l.length : Int)) = false := by simp
      have hxe : xs = l.map y := by rw [hxs.out, ← List.length_map (f := y), List.take_length]
      have hx1 : sumBy (fun x : NN (NT m) => x.s.length) xs ≤ 1048576 := by subst hxe; exact HT.out
      have cB0 := beside_any m w.heap.size A0 cp xs wr hJ.out.1.size (hJ.out.2.at_ (NodeR.steady (m + 1)) rfl (Nat.le_refl _)) (Nat.le_trans (Nat.le_of_eq hxl) hlen) hx1
      have cB : Hid (Calls Tryz.prog 26 #[.slice A0 l.length cp] wr (BesideOf m w.heap.size wr xs)) := by rw [← hxl]; exact cB0
      clear cB0 hx1
      have HXE := hide hxe
      clear hjl hlt hxe
      go_wp2_with fail
      refine cB.out.mono ?_
      rintro e w2 ⟨A2, c2, es2, rfl, hR2, hb2⟩
      go_wp2_with fail
      go_ret
      have HE := HXE.out
      subst HE
      exact ⟨A2, c2, es2, rfl, hR2, hJ.out.1.trans (hb2.mono hJ.out.1.size)⟩
end Go.Proofs.YtnepogddjinpoaaGreatDoor

namespace Go.Proofs.YtnepogddjinpoaaGreatDoor
open Go.RowKit
set_option linter.unusedVariables false
set_option linter.unusedSimpArgs false

theorem nodes0 (a : Option Addr) (c : Nat) (w : World) : Calls Tryz.prog 31 #[.slice a 0 c] w fun e w' => ∃ A0 c0, e = .returned (.slice A0 0 c0) ∧ Below w.heap.size w w' := by
  have h := nodes_step 0 id anyB lasts_any a c [] w AtR.nil (by simp) (Nat.zero_le _) (fun x hx => absurd hx (by simp))
  refine h.mono ?_
  rintro e w' ⟨A1, c1, es, he, _, hb⟩
  exact ⟨A1, c1, he, hb⟩
theorem name_codeN {P : Program} {c : Code} {Q : Exit → Act → World → Prop} {a : Act} {w : World} (h : ∀ W, w = W → c.wp P Q a W) : c.wp P Q a w := h w rfl
set_option maxHeartbeats 2000000 in
set_option maxRecDepth 100000 in
theorem node_text (s : List UInt8) (pos : Int) (a1 a2 a3 : Option Addr) (c1 c2 c3 : Nat) (w : World) :
    Calls Tryz.prog 53 #[.agg ⟨nodeCells 1 ⟨s.toArray⟩ ⟨#[]⟩ a1 0 c1 a2 0 c2 a3 0 c3 pos 0 0⟩] w (NodeTo 1 w (⟨1, s, [], [], [], [], pos, 0, 0⟩ : NN (NT 0))) := by
  obtain ⟨S, hS⟩ : ∃ S : ByteArray, (⟨s.toArray⟩ : ByteArray) = S := ⟨_, rfl⟩
  rw [hS]
  have HS := hide hS
  clear hS
  go_enter Tryz.func53, Tryz.ntmps53
  go_wp2_with fail
  refine name_codeN fun W hW => ?_
  have C1 : Chg [] w W := by subst hW; (repeat' (first | with_reducible exact Chg.refl _ _ | with_reducible refine Chg.alloc ?_ _ | with_reducible refine Chg.drew ?_ | with_reducible refine Chg.drewN ?_ _ | with_reducible refine Chg.set_ ?_ _ _ (by first | (simp; done) | (simp; omega) | omega)))
  have K : Blk W w.heap.size 61 #[.int .i64 1, .string S, .string ⟨#[]⟩, .slice a1 0 c1, .slice a2 0 c2, .slice a3 0 c3, .int .i64 pos, .int .i64 0, .int .i64 0] := by subst hW; (repeat' (first | with_reducible exact Blk.new_ (by first | rfl | (simp; done) | (simp; omega)) | with_reducible refine Blk.alloc_ ?_ | with_reducible refine Blk.drew ?_ | with_reducible refine Blk.drewN ?_ _ | with_reducible refine Blk.far_ ?_ (by first | (simp; done) | (simp; omega) | omega) | with_reducible apply Blk.set_eq | rfl))
  clear hW
  have HK := hide K
  have HC1 := hide C1
  have k4 := K.cell 4; have k5 := K.cell 5; simp at k4 k5
  have lK := K.lt
  clear K C1
  go_region_with (first
    | (go_at_call_of 31 (Value.slice a2 0 c2); refine (nodes0 a2 c2 _).mono ?_; rintro e wB ⟨AB, kB, rfl, hbB⟩; have HB := hide (below_step (a := W) (Chg.bel (by (repeat' (first | with_reducible exact Chg.refl _ _ | with_reducible refine Chg.alloc ?_ _ | with_reducible refine Chg.drew ?_ | with_reducible refine Chg.drewN ?_ _ | with_reducible refine Chg.set_ ?_ _ _ (by first | (simp; done) | (simp; omega) | omega))))) hbB); have KB := HK.out.chg (Chg.of_below (S := []) HB.out) (by simp); have q5 := KB.cell 5; simp at q5; have lB := KB.lt; clear hbB KB)
    | (go_at_call_of 31 (Value.slice a3 0 c3); refine (nodes0 a3 c3 _).mono ?_; rintro e wE ⟨AE, kE, rfl, hbE⟩; have HE := hide (below_step HB.out hbE); have KE := HK.out.chg (Chg.of_below (S := []) HE.out) (by simp); have HKE := hide KE; have z4 := KE.frozen 4; have z5 := KE.frozen 5; have u0 := KE.cell 0; have u1 := KE.cell 1; have u2 := KE.cell 2; have u3 := KE.cell 3; have u4 := KE.cell 4; have u5 := KE.cell 5; have u6 := KE.cell 6; have u7 := KE.cell 7; have u8 := KE.cell 8; simp at u0 u1 u2 u3 u4 u5 u6 u7 u8; have lE := KE.lt; clear hbE KE))
  all_goals
    go_wp2_with fail
    go_ret
    refine name_it (C := fun W9 => NodeTo 1 w (⟨1, s, [], [], [], [], pos, 0, 0⟩ : NN (NT 0)) (.returned (.slice (some ⟨wE.heap.size, 0, none⟩) 1 1)) W9) fun W9 hW9 => ?_
    have C2 : Chg [w.heap.size] wE W9 := by subst hW9; (repeat' (first | with_reducible exact Chg.refl _ _ | with_reducible refine Chg.alloc ?_ _ | with_reducible refine Chg.drew ?_ | with_reducible refine Chg.drewN ?_ _ | with_reducible refine Chg.set_ ?_ _ _ (by first | (simp; done) | (simp; omega) | omega)))
    have K2 : Blk W9 wE.heap.size 61 ⟨nodeCells 1 S ⟨#[]⟩ a1 0 c1 AB 0 kB AE 0 kE pos 0 0⟩ := by subst hW9; (repeat' (first | with_reducible exact Blk.new_ (by first | rfl | (simp; done) | (simp; omega)) | with_reducible refine Blk.alloc_ ?_ | with_reducible refine Blk.drew ?_ | with_reducible refine Blk.drewN ?_ _ | with_reducible refine Blk.far_ ?_ (by first | (simp; done) | (simp; omega) | omega) | with_reducible apply Blk.set_eq | rfl))
    have C3 := hide (((HC1.out.trans (Chg.of_below (S := []) HE.out) (by simp)).mono (S' := [w.heap.size]) (by simp)).trans C2 (by simp))
    clear hW9
    refine ⟨_, 1, 1, S, ⟨#[]⟩, a1, 0, c1, AB, 0, kB, AE, 0, kE, pos, 0, 0, rfl, AtB.of_blk (t := 61) (cs := nodeCells 1 S ⟨#[]⟩ a1 0 c1 AB 0 kB AE 0 kE pos 0 0) K2, ?_, ?_⟩
    · rw [← HS.out]
      exact NodeR.made (n := 0) (x := (⟨1, s, [], [], [], [], pos, 0, 0⟩ : NN (NT 0))) AtR.nil AtR.nil AtR.nil
    · exact (C3.out.mono (S' := []) (by intro x hx; simp at hx; subst hx; exact .inr (Nat.le_refl _))).bel
end Go.Proofs.YtnepogddjinpoaaGreatDoor

namespace Go.Proofs.YtnepogddjinpoaaGreatDoor
open Go.RowKit
set_option linter.unusedVariables false
set_option linter.unusedSimpArgs false

set_option maxHeartbeats 2000000 in
set_option maxRecDepth 100000 in
theorem node_act (U : World → Nat → Prop) (hU : Lasts U) (pos : Int) (a1 a2 a3 : Option Addr) (c1 c2 c3 : Nat) (w : World) (h : AtR CallR 2 U w a1 eyP) (hT : Lib.Utf8Tabs 1 2 w) :
    Calls Tryz.prog 53 #[.agg ⟨nodeCells 2 ⟨#[]⟩ ⟨#[]⟩ a1 1 c1 a2 0 c2 a3 0 c3 pos 1 0⟩] w (NodeTo 1 w (⟨1, [98], [], [], [], [], pos, 0, 0⟩ : NN (NT 0))) := by
  have cT := hide (fun (A2 A3 : Option Addr) (k2 k3 : Nat) W (hb : Below w.heap.size w W) => told_node U hU ⟨#[]⟩ ⟨#[]⟩ a1 A2 A3 c1 0 k2 0 k3 pos 0 W (h.on CallR.steady (hU.stays hb)) (Utf8Tabs_below hT hb))
  clear h hT
  go_enter Tryz.func53, Tryz.ntmps53
  go_wp2_with fail
  refine name_codeN fun W hW => ?_
  have C1 : Chg [] w W := by subst hW; (repeat' (first | with_reducible exact Chg.refl _ _ | with_reducible refine Chg.alloc ?_ _ | with_reducible refine Chg.drew ?_ | with_reducible refine Chg.drewN ?_ _ | with_reducible refine Chg.set_ ?_ _ _ (by first | (simp; done) | (simp; omega) | omega)))
  have K : Blk W w.heap.size 61 #[.int .i64 2, .string ⟨#[]⟩, .string ⟨#[]⟩, .slice a1 1 c1, .slice a2 0 c2, .slice a3 0 c3, .int .i64 pos, .int .i64 1, .int .i64 0] := by subst hW; (repeat' (first | with_reducible exact Blk.new_ (by first | rfl | (simp; done) | (simp; omega)) | with_reducible refine Blk.alloc_ ?_ | with_reducible refine Blk.drew ?_ | with_reducible refine Blk.drewN ?_ _ | with_reducible refine Blk.far_ ?_ (by first | (simp; done) | (simp; omega) | omega) | with_reducible apply Blk.set_eq | rfl))
  clear hW
  have HK := hide K
  have HC1 := hide C1
  have k4 := K.cell 4; have k5 := K.cell 5; simp at k4 k5
  have lK := K.lt
  clear K C1
  go_region_with (first
    | (go_at_call_of 31 (Value.slice a2 0 c2); refine (nodes0 a2 c2 _).mono ?_; rintro e wB ⟨AB, kB, rfl, hbB⟩; have HB := hide (below_step (a := W) (Chg.bel (by (repeat' (first | with_reducible exact Chg.refl _ _ | with_reducible refine Chg.alloc ?_ _ | with_reducible refine Chg.drew ?_ | with_reducible refine Chg.drewN ?_ _ | with_reducible refine Chg.set_ ?_ _ _ (by first | (simp; done) | (simp; omega) | omega))))) hbB); have KB := HK.out.chg (Chg.of_below (S := []) HB.out) (by simp); have q5 := KB.cell 5; simp at q5; have lB := KB.lt; clear hbB KB)
    | (go_at_call_of 31 (Value.slice a3 0 c3); refine (nodes0 a3 c3 _).mono ?_; rintro e wE ⟨AE, kE, rfl, hbE⟩; have HE := hide (below_step HB.out hbE); have KE := HK.out.chg (Chg.of_below (S := []) HE.out) (by simp); have HKE := hide KE; have z4 := KE.frozen 4; have z5 := KE.frozen 5; have u0 := KE.cell 0; have u1 := KE.cell 1; have u2 := KE.cell 2; have u3 := KE.cell 3; have u4 := KE.cell 4; have u5 := KE.cell 5; have u6 := KE.cell 6; have u7 := KE.cell 7; have u8 := KE.cell 8; simp at u0 u1 u2 u3 u4 u5 u6 u7 u8; have lE := KE.lt; clear hbE KE))
  all_goals
    go_wp2_with fail
    refine name_world fun W9 hW9 => ?_
    have C2 : Chg [w.heap.size] wE W9 := by subst hW9; (repeat' (first | with_reducible exact Chg.refl _ _ | with_reducible refine Chg.alloc ?_ _ | with_reducible refine Chg.drew ?_ | with_reducible refine Chg.drewN ?_ _ | with_reducible refine Chg.set_ ?_ _ _ (by first | (simp; done) | (simp; omega) | omega)))
    have C3 := hide ((((HC1.out.trans (Chg.of_below (S := []) HE.out) (by simp)).mono (S' := [w.heap.size]) (by simp)).trans C2 (by simp)).mono (S' := []) (by intro x hx; simp at hx; subst hx; exact .inr (Nat.le_refl _)))
    clear hW9 u0 u1 u2 u3 u4 u5 u6 u7 u8 z4 z5 lE lB q5 k4 k5 lK
    refine (cT.out AB AE kB kE W9 C3.out.bel).mono ?_
    rintro e w3 ⟨g, rfl, hg, hat, hb3⟩
    have hs := C3.out.size
    go_wp2_with fail
    go_ret
    exact ⟨g, 1, 1, ⟨#[98]⟩, ⟨#[]⟩, none, 0, 0, none, 0, 0, none, 0, 0, pos, 0, 0, rfl, hat, NodeR.made (n := 0) (x := (⟨1, [98], [], [], [], [], pos, 0, 0⟩ : NN (NT 0))) AtR.nil AtR.nil AtR.nil, C3.out.bel.trans (hb3.mono hs)⟩
/-- The example's nodes one by one. -/
def eyY (x : NT 1) : NT 1 := (⟨1, if NN.k x = 2 then [98] else NN.s x, [], [], [], [], NN.pos x, 0, 0⟩ : NN (NT 0))
def eyR : NN (NT 0) := ⟨1, [97, 98, 99], [], [], [], [], 0, 0, 0⟩
theorem eyL_len2 : eyL.length ≤ 1048576 := by
  have h : eyL.length = 3 := rfl
  rw [h]
  omega
theorem eyY_sum : sumBy (fun x : NN (NT 0) => x.s.length) (eyL.map eyY) ≤ 1048576 := by
  have h : sumBy (fun x : NN (NT 0) => x.s.length) (eyL.map eyY) = 3 := rfl
  rw [h]
  omega
theorem eyY_beside : besideL (eyL.map eyY : List (NN (NT 0))) = [eyR] := by rfl
theorem nodes_ey (U : World → Nat → Prop) (hU : Lasts U) (a : Option Addr) (c : Nat) (w : World) (h : AtR (NodeR 1) 9 U w a eyL) (hT : Lib.Utf8Tabs 1 2 w) :
    Calls Tryz.prog 31 #[.slice a 3 c] w fun e w' => ∃ A1 c1 es, e = .returned (.slice A1 1 c1) ∧ RowR (NodeR 1) 9 w.heap.size 61 w' (.slice A1 1 c1) es [eyR] ∧ Below w.heap.size w w' := by
  have hs := nodes_step 0 eyY U hU a c eyL w h eyL_len2 eyY_sum (fun x hx vs W hb hN => by
    have hT2 := Utf8Tabs_below hT hb
    obtain ⟨a1, c1, a2, c2, a3, c3, rfl, q1, q2, q3⟩ := NodeR.parts hN
    rcases eyL_mem hx with rfl | rfl | rfl
    · exact node_text [97] 0 a1 a2 a3 c1 c2 c3 W
    · exact node_act U hU 1 a1 a2 a3 c1 c2 c3 W q1 hT2
    · exact node_text [99] 8 a1 a2 a3 c1 c2 c3 W)
  refine hs.mono ?_
  rintro e w' ⟨A1, c1, es, he, hR, hb⟩
  rw [eyY_beside] at he hR
  exact ⟨A1, c1, es, he, hR, hb⟩
end Go.Proofs.YtnepogddjinpoaaGreatDoor
