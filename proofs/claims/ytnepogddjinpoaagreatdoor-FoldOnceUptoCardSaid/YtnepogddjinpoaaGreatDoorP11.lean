/-
  PLAIN LAWS of many texts, in one.
-/
import Derived.Test.YtnepogddjinpoaaGreatDoorP3
import Derived.Test.YtnepogddjinpoaaGreatDoorM10
import Derived.Test.YtnepogddjinpoaaGreatDoorOwnNode
import Derived.Test.YtnepogddjinpoaaGreatDoorP7
import Derived.Test.YtnepogddjinpoaaGreatDoorP10
import Derived.Test.YtnepogddjinpoaaGreatDoorClone
import Derived.Test.YtnepogddjinpoaaGreatDoorQB
import Derived.Deep.RegionWith
import Derived.Deep.QuietTactic
import Derived.BigQuiet
import Derived.BigRegion
import Derived.Test.YtnepogddjinpoaaGreatDoorProg
import Derived.Laws.StructEq
import Derived.KernelRfl
import Derived.Tactics2
import Derived.Calls
import Derived.Test.YtnepogddjinpoaaGreatDoorM1
import Derived.Test.YtnepogddjinpoaaGreatDoorP4
import Derived.Test.YtnepogddjinpoaaGreatDoorP9
import Derived.Test.YtnepogddjinpoaaGreatDoorLaidL
namespace Go.Proofs.YtnepogddjinpoaaGreatDoor
open Go.RowKit
set_option linter.unusedVariables false
set_option linter.unusedSimpArgs false

theorem deep_mass : ∀ (n : Nat) (x : NT n), deepN n x ≤ bareN n x := by
  intro n
  induction n with
  | zero => intro x; exact x.elim
  | succ n ih =>
    intro x
    have h : ∀ l : List (NT n), maxBy (deepN n) l ≤ sumBy (bareN n) l := by
      intro l
      induction l with
      | nil => exact Nat.zero_le _
      | cons y l ihl =>
        have := ih y
        show max (deepN n y) (maxBy (deepN n) l) ≤ bareN n y + sumBy (bareN n) l
        omega
    have h1 := h (NN.body x)
    have h2 := h (NN.els x)
    have h3 : bareN (n + 1) x = _ := bareN_succ n x
    show 1 + max (maxBy (deepN n) (NN.body x)) (maxBy (deepN n) (NN.els x)) ≤ bareN (n + 1) x
    rw [h3]
    omega
theorem deep_sum {n : Nat} (l : List (NT n)) : maxBy (deepN n) l ≤ sumBy (bareN n) l := by
  induction l with
  | nil => exact Nat.zero_le _
  | cons y l ihl =>
    have := deep_mass n y
    show max (deepN n y) (maxBy (deepN n) l) ≤ bareN n y + sumBy (bareN n) l
    omega
theorem maxBy_take {α : Type} {f : α → Nat} {l : List α} {i : Nat} {x : α} (h : l[i]? = some x) : maxBy f (l.take (i + 1)) = max (maxBy f (l.take i)) (f x) := by
  rw [List.take_add_one, h]
  simp only [Option.toList_some]
  rw [maxBy_append]
  show max _ (max (f x) 0) = _
  omega
set_option maxHeartbeats 4000000 in
set_option maxRecDepth 100000 in
theorem depth_any : ∀ (n : Nat) (U : World → Nat → Prop) (hU : Lasts U) (a : Option Addr) (c : Nat) (l : List (NT n)) (w : World), AtR (NodeR n) 9 U w a l → sumBy (bareN n) l ≤ 1000000000000 →
    Calls Tryz.prog 49 #[.slice a l.length c] w fun e w' => e = .returned (.int .i64 ((maxBy (deepN n) l : Nat) : Int)) ∧ Below w.heap.size w w' := by
  intro n
  induction n with
  | zero =>
    intro U hU a c l w h hm
    have hl : l = [] := by
      cases l with
      | nil => rfl
      | cons x _ => exact x.elim
    subst hl
    exact (depthP0 a c w).mono fun e w' ⟨h1, h2⟩ => ⟨h1, by subst h2; exact Below.refl _ _⟩
  | succ n ih =>
    intro U hU a c l w h hm
    have H := hide h
    have HM := hide hm
    have hlen : l.length ≤ 1000000000000 := Nat.le_trans (sumBy_len (bareN (n + 1)) bareN_pos l) hm
    have hmx := Nat.le_trans (deep_sum l) hm
    clear h hm
    go_enter Tryz.func49, Tryz.ntmps49
    go_wp2_with fail
    go_loopw [3, 8] (fun nv iv wr => ∃ (i : Nat), iv = .int .i64 (i : Int) ∧ nv = .int .i64 ((maxBy (deepN (n + 1)) (l.take i) : Nat) : Int) ∧ i ≤ l.length ∧ Hid (Below w.heap.size w wr)) (fun _ iv _ => l.length - (intOf iv).toNat)
    case atStart => exact ⟨0, rfl, rfl, Nat.zero_le _, Below.refl _ _⟩
    case round =>
      obtain ⟨i, rfl, rfl, hil, hJ⟩ := hrel
      by_cases hlt : i < l.length
      · obtain ⟨x, hx⟩ : ∃ x, l[i]? = some x := ⟨_, List.getElem?_eq_getElem hlt⟩
        obtain ⟨g, o, vs, rfl, hg, _, _, hcell, hN⟩ := (H.out.on (NodeR.steady (n + 1)) (hU.stays hJ.out)) i x hx
        obtain ⟨a1, c1, a2, c2, a3, c3, rfl, q1, q2, q3⟩ := NodeR.parts hN
        have f0 := hcell 0 _ rfl; have f1 := hcell 1 _ rfl; have f2 := hcell 2 _ rfl; have f3 := hcell 3 _ rfl; have f4 := hcell 4 _ rfl; have f5 := hcell 5 _ rfl; have f6 := hcell 6 _ rfl; have f7 := hcell 7 _ rfl; have f8 := hcell 8 _ rfl
        simp only [Nat.add_zero] at f0
        have hxm := sumBy_mem (bareN (n + 1)) l x (List.mem_of_getElem? hx)
        have hxs : bareN (n + 1) x = _ := bareN_succ n x
        have hM := HM.out
        have mb : sumBy (bareN n) (NN.body x) ≤ 1000000000000 := by rw [hxs] at hxm; omega
        have me : sumBy (bareN n) (NN.els x) ≤ 1000000000000 := by rw [hxs] at hxm; omega
        have bb := Nat.le_trans (deep_sum (NN.body x)) mb
        have be := Nat.le_trans (deep_sum (NN.els x)) me
        have hnx := hide (maxBy_take (f := deepN (n + 1)) hx)
        have hdx : deepN (n + 1) x = 1 + max (maxBy (deepN n) (NN.body x)) (maxBy (deepN n) (NN.els x)) := rfl
        have HDX := hide hdx
        obtain ⟨d, hd⟩ : ∃ d, maxBy (deepN (n + 1)) (l.take i) = d := ⟨_, rfl⟩
        have hd9 : d ≤ 1000000000000 := by rw [← hd]; exact Nat.le_trans (maxBy_le (fun y hy => le_maxBy (List.mem_of_mem_take hy))) hmx
        have cB := hide (fun W (hb : Below wr.heap.size wr W) => ih U hU a2 c2 (NN.body x) W (q2.on (NodeR.steady n) (hU.stays hb)) mb)
        have cE := hide (fun W (hb : Below wr.heap.size wr W) => ih U hU a3 c3 (NN.els x) W (q3.on (NodeR.steady n) (hU.stays hb)) me)
        obtain ⟨db, hdb⟩ : ∃ d, maxBy (deepN n) (NN.body x) = d := ⟨_, rfl⟩
        obtain ⟨de, hde⟩ : ∃ d, maxBy (deepN n) (NN.els x) = d := ⟨_, rfl⟩
        rw [hdb] at bb
        rw [hde] at be
        simp only [hdb] at cB HDX
        simp only [hde] at cE HDX
        rw [hd]
        rw [hd] at hnx
        have hji : (i : Int) < (l.length : Int) := by omega
        have hi9 : i < 1000000000000 := by omega
        have HLT := hide hlt
        have hw : IntKind.i64.wrap (1 + max (db : Int) (de : Int)) = ((1 + max db de : Nat) : Int) := by
          rw [IntKind.wrap_i64]
          omega
        have HW := hide hw
        clear hw
        clear hcell hN q1 q2 q3 hx hil hlt hd hdb hde hdx hxm hxs hM mb me
        go_wp2_with fail
        refine name_codeY fun W hW => ?_
        have C1 : Chg [] wr W := by subst hW; (repeat' (first | with_reducible exact Chg.refl _ _ | with_reducible refine Chg.alloc ?_ _ | with_reducible refine Chg.drew ?_ | with_reducible refine Chg.drewN ?_ _ | with_reducible refine Chg.set_ ?_ _ _ (by first | (simp; done) | (simp; omega) | omega)))
        have K : Blk W wr.heap.size 61 #[.int .i64 (NN.k x), .string ⟨(NN.s x).toArray⟩, .string ⟨(NN.nm x).toArray⟩, .slice a1 (NN.pipe x).length c1, .slice a2 (NN.body x).length c2, .slice a3 (NN.els x).length c3, .int .i64 (NN.pos x), .int .i64 (NN.esc x), .int .i64 (NN.unit x)] := by subst hW; (repeat' (first | with_reducible exact Blk.new_ (by first | rfl | (simp; done) | (simp; omega)) | with_reducible refine Blk.alloc_ ?_ | with_reducible refine Blk.drew ?_ | with_reducible refine Blk.drewN ?_ _ | with_reducible refine Blk.far_ ?_ (by first | (simp; done) | (simp; omega) | omega) | with_reducible apply Blk.set_eq | rfl))
        have HC1 := hide C1
        have HK := hide K
        clear hW f0 f1 f2 f3 f4 f5 f6 f7 f8 C1 K
        refine wp_region_below (W := W) (by kernel_rfl) (by kernel_rfl) (Below.refl _ _) ?_
        repeat (first
          | go_big_quiet_skip
          | (apply wpQuiet_one (by rfl)
             · intro w' hw'
               have K' := HK.out.chg (Chg.of_below (S := []) hw') (by simp)
               have y4 := K'.cell 4; have y5 := K'.cell 5
               simp at y4 y5
               clear K'
               go_simp
               first
                 | done
                 | (go_at_call_of 49 (Value.slice a2 (NN.body x).length c2); exact Calls.below_of hw' (cB.out w' ((HC1.out.trans (Chg.of_below (S := []) hw') (by simp)).bel)))
                 | (go_at_call_of 49 (Value.slice a3 (NN.els x).length c3); exact Calls.below_of hw' (cE.out w' ((HC1.out.trans (Chg.of_below (S := []) hw') (by simp)).bel)))
                 | rfl
             · go_simp
               rfl))
        refine wpQuiet_nil ?_
        intro w' hw'
        go_wp2_with fail
        have hlt := HLT.out
        go_roundw
        case rel => exact ⟨i + 1, by go_num, by rw [hnx.out, HDX.out, HW.out]; congr 1; omega, by omega, hide (hJ.out.trans ((HC1.out.trans (Chg.of_below (S := []) hw') (by simp)).bel.mono hJ.out.size))⟩
        case measure => simp [intOf]; omega
      · obtain rfl : i = l.length := by omega
        have hif : decide ((l.length : Int) < (l.length : Int)) = false := by simp
        have hte : l.take l.length = l := List.take_of_length_le (Nat.le_refl _)
        rw [hte]
        clear hil hlt
        go_wp2_with fail
        go_ret
        exact ⟨rfl, hJ.out⟩
end Go.Proofs.YtnepogddjinpoaaGreatDoor

namespace Go.Proofs.YtnepogddjinpoaaGreatDoor
open Go.RowKit
set_option linter.unusedVariables false
set_option linter.unusedSimpArgs false

set_option maxHeartbeats 2000000 in
set_option maxRecDepth 100000 in
theorem badU_any (k pos esc unit : Int) (s nm : ByteArray) (a1 : Option Addr) (n1 c1 : Nat) (a2 : Option Addr) (n2 c2 : Nat) (a3 : Option Addr) (n3 c3 B : Nat) (W : World) (q : Bool) (ua : Option Addr) (un uc : Nat) (hB : B < W.heap.size) (hc : W.cell? ⟨B, 0, none⟩ = some (.slice ua un uc))
    (cM : ∀ W', Below W.heap.size W W' → Calls Tryz.prog 52 #[.agg ⟨nodeCells k s nm a1 n1 c1 a2 n2 c2 a3 n3 c3 pos esc unit⟩, .int .i64 (un : Int)] W' fun e w' => e = .returned (.bool q) ∧ Below W'.heap.size W' w') :
    Calls Tryz.prog 51 #[.agg ⟨nodeCells k s nm a1 n1 c1 a2 n2 c2 a3 n3 c3 pos esc unit⟩, .pointer (some ⟨B, 0, none⟩)] W fun e w' => e = .returned (.bool (!q)) ∧ Below W.heap.size W w' := by
  have cM := hide cM
  go_enter Tryz.func51, Tryz.ntmps51
  go_wp2_with fail
  refine name_world fun W1 hW => ?_
  have C1 : Chg [] W W1 := by subst hW; (repeat' (first | with_reducible exact Chg.refl _ _ | with_reducible refine Chg.alloc ?_ _ | with_reducible refine Chg.drew ?_ | with_reducible refine Chg.drewN ?_ _ | with_reducible refine Chg.set_ ?_ _ _ (by first | (simp; done) | (simp; omega) | omega)))
  clear hW
  refine (cM.out W1 C1.bel).mono ?_
  rintro e w1 ⟨rfl, hb1⟩
  have C2 := hide (C1.below hb1)
  go_wp2_with fail
  go_ret
  exact ⟨rfl, C2.out.bel⟩
set_option maxRecDepth 100000 in
theorem contU (n : Nat) (U : World → Nat → Prop) (hU : Lasts U) (a : Option Addr) (c : Nat) (body : List (NT n)) (W : World) (B : Nat) (ua : Option Addr) (un uc : Nat) (hA : AtR (NodeR n) 9 U W a body) (hs : sumBy (bareN n) body ≤ 1048576) (hK : Blk W B 47 #[.slice ua un uc]) :
    Calls Tryz.prog 50 #[.slice a body.length c, .func (.func 51) #[] #[.pointer (some ⟨B, 0, none⟩)]] W fun e w' => e = .returned (.bool (!(body.all (mayN (un : Int) n)))) ∧ Below W.heap.size W w' := by
  have hh := containsFuncN n 51 #[.pointer (some ⟨B, 0, none⟩)] (fun _ _ => rfl) U hU (fun y => !mayN (un : Int) n y) body a c W (fun W' vs y hb' hy hR => by
    have K' := hK.chg (Chg.of_below (S := []) hb') (by simp)
    have hc := K'.cell 0
    simp at hc
    have hlt := K'.lt
    have cM := fun W'' (hb'' : Below W'.heap.size W' W'') => may_any n (un : Int) U hU vs y W'' (NodeR.steady n _ _ _ _ (hU.stays hb'') _ _ hR) (Nat.le_trans (sumBy_mem (bareN n) body y hy) hs)
    cases n with
    | zero => exact y.elim
    | succ k =>
      obtain ⟨b1, d1, b2, d2, b3, d3, rfl, _, _, _⟩ := NodeR.parts hR
      exact badU_any _ _ _ _ _ _ _ _ _ _ _ _ _ _ _ B W' _ ua un uc hlt hc cM) hA (Nat.le_trans (bare_len n body) hs)
  rw [any_not] at hh
  exact hh
set_option maxHeartbeats 4000000 in
set_option maxRecDepth 100000 in
theorem check_any (n : Nat) (U : World → Nat → Prop) (hU : Lasts U) (a : Option Addr) (c : Nat) (l : List (UnitD n)) (w : World) (h : AtR (UnitR n) 18 U w a l) (hm : sumBy (bareU n) l ≤ 1048576) :
    Calls Tryz.prog 29 #[.slice a l.length c] w fun e w' => e = .returned (.int .i64 (checkU n l)) ∧ Below w.heap.size w w' := by
  obtain ⟨R, hR⟩ : ∃ R, checkU n l = R := ⟨_, rfl⟩
  rw [hR]
  have HR := hide hR
  clear hR
  have hlen : l.length ≤ 1048576 := Nat.le_trans (sumBy_len (bareU n) (fun x => Nat.le_add_right 1 _) l) hm
  have each : ∀ x ∈ l, sumBy (bareN n) x.body ≤ 1048576 := fun x hx => by
    have h1 := sumBy_mem (bareU n) l x hx
    have h2 : bareU n x = 1 + sumBy (bareN n) x.body := rfl
    omega
  have H := hide h; have HM := hide hm; have HE := hide each; have HLEN := hide hlen
  clear h hm each hlen
  by_cases hnil : l = []
  · subst hnil
    go_enter Tryz.func29, Tryz.ntmps29
    go_wp2_with fail
    go_ret
    refine ⟨by rw [← HR.out]; rfl, ?_⟩
    refine name_it (C := fun W => Below w.heap.size w W) fun W hW => ?_
    have C1 : Chg [] w W := by subst hW; (repeat' (first | with_reducible exact Chg.refl _ _ | with_reducible refine Chg.alloc ?_ _ | with_reducible refine Chg.drew ?_ | with_reducible refine Chg.drewN ?_ _ | with_reducible refine Chg.set_ ?_ _ _ (by first | (simp; done) | (simp; omega) | omega)))
    exact C1.bel
  have hpos : 0 < l.length := by cases l with | nil => exact absurd rfl hnil | cons _ _ => simp
  obtain ⟨x0, hx0⟩ : ∃ x, l[0]? = some x := ⟨_, List.getElem?_eq_getElem hpos⟩
  obtain ⟨gu, ou, rfl⟩ : ∃ g o, a = some ⟨g, o, none⟩ := by
    obtain ⟨g, o, _, h, _⟩ := H.out 0 x0 hx0
    exact ⟨g, o, h⟩
  clear hx0 x0
  obtain ⟨m, hml⟩ : ∃ m, l.length = m := ⟨_, rfl⟩
  rw [hml] at hpos
  rw [hml]
  have HML := hide hml
  clear hml
  have z2 : ((m : Int) == 0) = false := by rw [beq_eq_false_iff_ne]; omega
  have HN := hide hnil
  clear hnil
  go_enter Tryz.func29, Tryz.ntmps29
  go_wp2_with fail
  refine name_codeY fun W0 hW0 => ?_
  have C0 : Chg [] w W0 := by subst hW0; (repeat' (first | with_reducible exact Chg.refl _ _ | with_reducible refine Chg.alloc ?_ _ | with_reducible refine Chg.drew ?_ | with_reducible refine Chg.drewN ?_ _ | with_reducible refine Chg.set_ ?_ _ _ (by first | (simp; done) | (simp; omega) | omega)))
  have K0 : Blk W0 w.heap.size 47 #[.slice (some ⟨gu, ou, none⟩) m c] := by subst hW0; (repeat' (first | with_reducible exact Blk.new_ (by first | rfl | (simp; done) | (simp; omega)) | with_reducible refine Blk.alloc_ ?_ | with_reducible refine Blk.drew ?_ | with_reducible refine Blk.drewN ?_ _ | with_reducible refine Blk.far_ ?_ (by first | (simp; done) | (simp; omega) | omega) | with_reducible apply Blk.set_eq | rfl))
  have I0 : Hid (Chg [] w W0 ∧ Blk W0 w.heap.size 47 #[.slice (some ⟨gu, ou, none⟩) m c]) := ⟨C0, K0⟩
  clear hW0 C0 K0
  go_loopw [12] (fun iv wr => ∃ (j : Nat), iv = .int .i64 (j : Int) ∧ j ≤ m ∧ Hid (∀ i x, i < j → l[i]? = some x → deepU n x ≤ 17) ∧ Hid (Chg [] w wr ∧ Blk wr w.heap.size 47 #[.slice (some ⟨gu, ou, none⟩) m c])) (fun iv _ => m - (intOf iv).toNat)
  case atStart => exact ⟨0, rfl, Nat.zero_le _, hide (fun i x hi => absurd hi (by omega)), I0⟩
  case round =>
    obtain ⟨j, rfl, hjl, hall, hJ⟩ := hrel
    by_cases hlt : j < m
    · obtain ⟨x, hx⟩ : ∃ x, l[j]? = some x := ⟨_, List.getElem?_eq_getElem (by rw [HML.out]; exact hlt)⟩
      obtain ⟨b, o, vs, hbo, hcs, hvl, hR⟩ := (H.out.on (UnitR.steady n) (hU.stays hJ.out.1.bel)).cells hx
      injection hbo with e1
      injection e1 with e1 e2 e3
      subst e1
      subst e2
      obtain ⟨a1, c1, rfl, hA⟩ := hR
      have mb := HE.out x (List.mem_of_getElem? hx)
      have cD := hide (fun W (hb : Below wr.heap.size wr W) => depth_any n U hU a1 c1 x.body W (hA.on (NodeR.steady n) (hU.stays hb)) (Nat.le_trans mb (by decide)))
      obtain ⟨d, hd⟩ : ∃ d, maxBy (deepN n) x.body = d := ⟨_, rfl⟩
      have HD : Hid (deepU n x = d) := hd
      obtain ⟨nb, hnb⟩ : ∃ k, x.body.length = k := ⟨_, rfl⟩
      simp only [hd, hnb] at cD
      rw [hnb] at hcs
      have HX := hide hx
      have HLT := hide hlt
      have HCS := hide hcs
      have hji : (j : Int) < (m : Int) := by omega
      have hj9 : j < 1048576 := by have h1 := HLEN.out; have h2 := HML.out; omega
      clear hcs hvl hA mb hd hnb hx hlt
      by_cases h17 : 17 < d
      · have q : decide ((17 : Int) < (d : Int)) = true := decide_eq_true (by omega)
        go_wp2_with (refine wpList_unit 14 15 4 rfl rfl rfl rfl rfl rfl rfl rfl rfl gu (ou + j * 18) (by simp) (unitCells x.nm x.f x.t a1 nb c1) HCS.out rfl (unitCells1 _ _ _ _ _ _) (by decide) (by simp) (by simp) ?_; intro W1 CH1 R1 L1; have v17 := R1 17 _ rfl; simp only [Nat.zero_add] at v17; clear R1)
        refine (cD.out _ CH1.bel).mono ?_
        rintro e w1 ⟨rfl, hb1⟩
        have C2 := hide ((hJ.out.1.trans CH1 (by simp)).below hb1)
        clear CH1 L1 v17 hb1
        go_wp2_with fail
        go_ret
        have hR : R = 42 := by
          rw [← HR.out]
          unfold checkU
          rw [if_neg HN.out, if_pos (Nat.lt_of_lt_of_le (by rw [HD.out]; exact h17) (le_maxBy (List.mem_of_getElem? HX.out)))]
        exact ⟨by rw [hR]; rfl, C2.out.bel⟩
      · have q : decide ((17 : Int) < (d : Int)) = false := decide_eq_false (by omega)
        go_wp2_with (refine wpList_unit 14 15 4 rfl rfl rfl rfl rfl rfl rfl rfl rfl gu (ou + j * 18) (by simp) (unitCells x.nm x.f x.t a1 nb c1) HCS.out rfl (unitCells1 _ _ _ _ _ _) (by decide) (by simp) (by simp) ?_; intro W1 CH1 R1 L1; have v17 := R1 17 _ rfl; simp only [Nat.zero_add] at v17; clear R1)
        refine (cD.out _ CH1.bel).mono ?_
        rintro e w1 ⟨rfl, hb1⟩
        have C2 := hide ((hJ.out.1.trans CH1 (by simp)).below hb1)
        have K2 := hide ((hJ.out.2.chg CH1 (by simp)).chg (Chg.of_below (S := []) hb1) (by simp))
        clear CH1 L1 v17 hb1
        go_wp2_with fail
        have hlt := HLT.out
        go_roundw
        case rel =>
          refine ⟨j + 1, by go_num, by omega, hide (fun i y hi hy => ?_), ⟨C2.out, K2.out⟩⟩
          rcases Nat.lt_or_ge i j with h | h
          · exact hall.out i y h hy
          · obtain rfl : i = j := by omega
            have := HX.out.symm.trans hy
            injection this with this
            subst this
            rw [HD.out]; omega
        case measure => simp [intOf]; omega
    · obtain rfl : j = m := by omega
      have hif : decide ((j : Int) < (j : Int)) = false := by simp
      have HDEEP : Hid (maxBy (deepU n) l ≤ 17) := maxBy_le (fun y hy => by
        obtain ⟨i, hi, rfl⟩ := List.mem_iff_getElem.1 hy
        exact hall.out i _ (by have := HML.out; omega) (List.getElem?_eq_getElem hi))
      obtain ⟨C0, K0⟩ := hJ.out
      have k0 := K0.cell 0
      simp at k0
      have lK := K0.lt
      have I0 := hide (And.intro C0 K0)
      clear C0 K0 hJ hall hlt hjl
      go_wp2_with fail
      go_loopw [23] (fun iv wr => ∃ (i : Nat), iv = .int .i64 (i : Int) ∧ i ≤ j ∧ Hid (∀ k x, k < i → l[k]? = some x → x.body.all (mayN (j : Int) n) = true) ∧ Hid (Chg [] w wr ∧ Blk wr w.heap.size 47 #[.slice (some ⟨gu, ou, none⟩) j c])) (fun iv _ => j - (intOf iv).toNat)
      case atStart => exact ⟨0, rfl, Nat.zero_le _, hide (fun i x hi => absurd hi (by omega)), I0⟩
      case round =>
        clear k0 lK
        obtain ⟨i, rfl, hil, hall, hJ⟩ := hrel
        by_cases hlt : i < j
        · obtain ⟨x, hx⟩ : ∃ x, l[i]? = some x := ⟨_, List.getElem?_eq_getElem (by rw [HML.out]; exact hlt)⟩
          obtain ⟨b, o, vs, hbo, hcs, hvl, hR⟩ := (H.out.on (UnitR.steady n) (hU.stays hJ.out.1.bel)).cells hx
          injection hbo with e1
          injection e1 with e1 e2 e3
          subst e1
          subst e2
          obtain ⟨a1, c1, rfl, hA⟩ := hR
          have mb := HE.out x (List.mem_of_getElem? hx)
          have cC := hide (fun W (hb : Below wr.heap.size wr W) (hK : Blk W w.heap.size 47 #[.slice (some ⟨gu, ou, none⟩) j c]) => contU n U hU a1 c1 x.body W w.heap.size (some ⟨gu, ou, none⟩) j c (hA.on (NodeR.steady n) (hU.stays hb)) mb hK)
          obtain ⟨q, hq⟩ : ∃ q, x.body.all (mayN (j : Int) n) = q := ⟨_, rfl⟩
          have HQ := hide hq
          obtain ⟨nb, hnb⟩ : ∃ k, x.body.length = k := ⟨_, rfl⟩
          simp only [hq, hnb] at cC
          rw [hnb] at hcs
          have HX := hide hx
          have HLT := hide hlt
          have HCS := hide hcs
          have hji : (i : Int) < (j : Int) := by omega
          have hj9 : i < 1048576 := by have h1 := HLEN.out; have h2 := HML.out; omega
          clear hcs hvl hA mb hq hnb hx hlt
          cases q with
          | false =>
            go_wp2_with (refine wpList_unit 25 26 6 rfl rfl rfl rfl rfl rfl rfl rfl rfl gu (ou + i * 18) (by simp) (unitCells x.nm x.f x.t a1 nb c1) HCS.out rfl (unitCells1 _ _ _ _ _ _) (by decide) (by simp) (by simp) ?_; intro W1 CH1 R1 L1; have v17 := R1 17 _ rfl; simp only [Nat.zero_add] at v17; clear R1)
            have C2 := hJ.out.1.trans CH1 (by simp)
            have K2 := hJ.out.2.chg CH1 (by simp)
            refine (cC.out _ CH1.bel K2).mono ?_
            rintro e w1 ⟨rfl, hb1⟩
            have C3 := hide (C2.below hb1)
            clear CH1 L1 v17 hb1 C2 K2
            go_wp2_with fail
            go_ret
            have hR : R = 9 := by
              rw [← HR.out]
              unfold checkU
              rw [if_neg HN.out, if_neg (by have := HDEEP.out; omega), HML.out, if_neg]
              intro h
              have := List.all_eq_true.1 h x (List.mem_of_getElem? HX.out)
              rw [HQ.out] at this
              cases this
            exact ⟨by rw [hR]; rfl, C3.out.bel⟩
          | true =>
            go_wp2_with (refine wpList_unit 25 26 6 rfl rfl rfl rfl rfl rfl rfl rfl rfl gu (ou + i * 18) (by simp) (unitCells x.nm x.f x.t a1 nb c1) HCS.out rfl (unitCells1 _ _ _ _ _ _) (by decide) (by simp) (by simp) ?_; intro W1 CH1 R1 L1; have v17 := R1 17 _ rfl; simp only [Nat.zero_add] at v17; clear R1)
            have C2 := hJ.out.1.trans CH1 (by simp)
            have K2 := hJ.out.2.chg CH1 (by simp)
            refine (cC.out _ CH1.bel K2).mono ?_
            rintro e w1 ⟨rfl, hb1⟩
            have C3 := hide (C2.below hb1)
            have K3 := hide (K2.chg (Chg.of_below (S := []) hb1) (by simp))
            clear CH1 L1 v17 hb1 C2 K2
            go_wp2_with fail
            have hlt := HLT.out
            go_roundw
            case rel =>
              refine ⟨i + 1, by go_num, by omega, hide (fun k y hk hy => ?_), ⟨C3.out, K3.out⟩⟩
              rcases Nat.lt_or_ge k i with h | h
              · exact hall.out k y h hy
              · obtain rfl : k = i := by omega
                have := HX.out.symm.trans hy
                injection this with this
                subst this
                exact HQ.out
            case measure => simp [intOf]; omega
        · obtain rfl : i = j := by omega
          have hif : decide ((i : Int) < (i : Int)) = false := by simp
          have C1 := hide hJ.out.1
          have hR : R = 0 := by
            rw [← HR.out]
            unfold checkU
            rw [if_neg HN.out, if_neg (by have := HDEEP.out; omega), HML.out, if_pos]
            rw [List.all_eq_true]
            intro y hy
            obtain ⟨k, hk, rfl⟩ := List.mem_iff_getElem.1 hy
            exact hall.out k _ (by have := HML.out; omega) (List.getElem?_eq_getElem hk)
          clear hJ hall hlt hil
          go_wp2_with fail
          go_ret
          exact ⟨by rw [hR]; rfl, C1.out.bel⟩
end Go.Proofs.YtnepogddjinpoaaGreatDoor

namespace Go.Proofs.YtnepogddjinpoaaGreatDoor
open Go.RowKit
set_option linter.unusedVariables false
set_option linter.unusedSimpArgs false

theorem UnitR.cell1 {n : Nat} {U : World → Nat → Prop} {w : World} {c : List Value} {x : UnitD n} (h : UnitR n U w c x) : ∀ u ∈ c, u.oneCell' = true := by
  obtain ⟨a, m, rfl, _⟩ := h
  exact unitCells1 _ _ _ _ _ _
set_option maxHeartbeats 2000000 in
set_option maxRecDepth 100000 in
theorem clone_units (n : Nat) (U : World → Nat → Prop) (a : Option Addr) (c : Nat) (l : List (UnitD n)) (w : World) (h : AtR (UnitR n) 18 U w a l) (hz : l.length * 248 ≤ 140737488351232) :
    Calls Tryz.prog 30 #[.slice a l.length c] w (Cloned (UnitR n) 18 59 U w l) := by
  obtain ⟨i0, hi, hz0, hz1, hz2⟩ := info_parts unit_info
  have hq := fun (W : World) (a : Option Addr) (l c : Nat) => run_eql_slice_nil (P := Tryz.prog) W 47 59 a l c Tryz.underlying47
  cases a with
  | none =>
    have hl := h.none_nil
    subst hl
    go_enter Tryz.func30, Tryz.ntmps30
    go_wp2_with fail
    go_ret
    exact ⟨_, [], rfl, World.ownsRow_nil _ _ _ _, rfl, by simp, by simp, Below.refl _ _⟩
  | some ad =>
    by_cases hl : l = []
    · subst hl
      go_enter Tryz.func30, Tryz.ntmps30
      go_wp2_with fail
      go_ret
      exact ⟨_, [], rfl, World.ownsRow_lit w #[] 0 (Nat.le_refl _) (by decide) rfl, rfl, by simp, by simp, (Below.refl _ _).alloc (Nat.le_refl _) _⟩
    · obtain ⟨b, off, es, ha, hb, hu, hes, hsz, hcell, hR⟩ := h.rows (by decide) hl
      injection ha with ha
      subst ha
      have hlp : 0 < l.length := List.length_pos_iff.2 hl
      have HE := hide hes
      clear hes
      go_enter Tryz.func30, Tryz.ntmps30
      go_wp2_with (at_builtin; refine wpList_append_own _ rfl _ _ 47 rfl w.heap.size 59 i0 (.agg unitZ) 18 248 Tryz.underlying47 hi hz0 hz1 hz2 rfl (by decide) _ 0 _ rfl (World.ownsRow_lit w #[] 0 (Nat.le_refl _) (by decide) rfl) ⟨b, off, none⟩ l.length c es.flatten rfl (by rw [flat_len hsz, HE.out]) (by intro j u hj; rw [add_at]; exact (World.cell?_alloc_lt w _ ⟨b, off + j, none⟩ hb).trans (hcell j u hj)) (flat_cell1 HE.out (fun r c x h1 h2 => (UnitR.cell1 (hR r c x h1 h2)))) (by unfold maxLen; omega) (by omega) (by simp) ?_; intro v1 w1 hown1 hgrow1 _)
      go_ret
      refine ⟨_, es, rfl, ?_, HE.out, hsz, hR, ((Below.refl _ _).alloc (Nat.le_refl _) _).grown hgrow1 (by simp) (fun k e => ?_)⟩
      · rw [HE.out]; simpa using hown1
      · injection e with e
        have e : w.heap.size = k := e
        omega

/-- What stands beside a block. -/
def NeB (g : Nat) : World → Nat → Prop := fun _ b => b ≠ g
theorem lasts_ne (g : Nat) : Lasts (NeB g) := fun _ _ _ _ _ h => h
/-- Units that lie in a block of their own. -/
structure InvF (n g : Nat) (w : World) (xs : List (UnitD n)) : Prop where
  lt : g < w.heap.size
  cell : ∀ j x, xs[j]? = some x → ∃ a c, (∀ t u, (unitCells x.nm x.f x.t a x.body.length c)[t]? = some u → w.cell? ⟨g, j * 18 + t, none⟩ = some u) ∧ AtR (NodeR n) 9 (NeB g) w a x.body
  free : ∀ j, j < xs.length * 18 → w.frozen? ⟨g, j, none⟩ = false
theorem InvF.below {n g : Nat} {w w' : World} {xs : List (UnitD n)} (h : InvF n g w xs) (hb : Below w.heap.size w w') : InvF n g w' xs := by
  refine ⟨Nat.lt_of_lt_of_le h.lt hb.size, fun j x hx => ?_, fun j hj => ?_⟩
  · obtain ⟨a, c, h1, h2⟩ := h.cell j x hx
    exact ⟨a, c, fun t u ht => (cellB (hb.block g h.lt) _).trans (h1 t u ht), h2.on (NodeR.steady n) ((lasts_ne g).stays hb)⟩
  · have e := h.free j hj
    unfold World.frozen? at e ⊢
    rw [hb.block g h.lt]; exact e
theorem InvF.at_ {n g : Nat} {w : World} {xs : List (UnitD n)} (h : InvF n g w xs) : AtR (UnitR n) 18 anyB w (some ⟨g, 0, none⟩) xs := by
  intro j x hx
  obtain ⟨a, c, h1, h2⟩ := h.cell j x hx
  refine ⟨g, 0, unitCells x.nm x.f x.t a x.body.length c, rfl, h.lt, trivial, rfl, fun t u ht => by rw [Nat.zero_add]; exact h1 t u ht, a, c, rfl, h2.on (NodeR.steady n) ⟨Nat.le_refl _, fun b _ _ => ⟨rfl, trivial⟩⟩⟩
/-- What the units become. -/
def FoldU (n : Nat) (l out : List (UnitD n)) : Prop := out.length = l.length ∧ ∀ (j : Nat) (x : UnitD n), l[j]? = some x → ∃ b : List (NT n), FoldsTo BB n x.body b ∧ out[j]? = some ({ x with body := b } : UnitD n)
theorem check_may {n : Nat} {l : List (UnitD n)} (h : checkU n l = 0) : ∀ x ∈ l, ∀ y ∈ x.body, mayN (l.length : Int) n y = true := by
  unfold checkU at h
  split at h
  · cases h
  · split at h
    · cases h
    · split at h
      · rename_i h2
        intro x hx y hy
        exact List.all_eq_true.1 (List.all_eq_true.1 h2 x hx) y hy
      · cases h
/-- What fold.Fold gives. -/
def FoldTo (n : Nat) (l : List (UnitD n)) (w : World) (e : Ending) (w' : World) : Prop :=
  (checkU n l ≠ 0 ∧ e = .returned (.tuple #[.slice none 0 0, .int .i64 (checkU n l)]) ∧ Below w.heap.size w w') ∨
  (checkU n l = 0 ∧ ∃ g c out, e = .returned (.tuple #[.slice (some ⟨g, 0, none⟩) l.length c, .int .i64 0]) ∧ FoldU n l out ∧ AtR (UnitR n) 18 anyB w' (some ⟨g, 0, none⟩) out ∧ Below w.heap.size w w')
theorem put_body {n : Nat} {xs : List (UnitD n)} {i : Nat} {x : UnitD n} (hx : xs[i]? = some x) (b : List (NT n)) : ∀ j : Nat, (xs.set i { x with body := b })[j]? = if j = i then some { x with body := b } else xs[j]? := by
  intro j
  have hi := (List.getElem?_eq_some_iff.1 hx).1
  by_cases h : j = i
  · subst h
    rw [if_pos rfl, List.getElem?_set_self hi]
  · rw [if_neg h, List.getElem?_set_ne (Ne.symm h)]
theorem InvF.put {n g : Nat} {w : World} {xs : List (UnitD n)} (h : InvF n g w xs) {i : Nat} {x : UnitD n} (hx : xs[i]? = some x) {b : List (NT n)} {A : Option Addr} {c : Nat} (hb : AtR (NodeR n) 9 (NeB g) w A b) : InvF n g (w.setCell ⟨g, i * 18 + 17, none⟩ (.slice A b.length c)) (xs.set i { x with body := b }) := by
  have hi := (List.getElem?_eq_some_iff.1 hx).1
  have hch : Chg [g] w (w.setCell ⟨g, i * 18 + 17, none⟩ (.slice A b.length c)) := (Chg.refl _ _).set_ _ _ (.inl (by simp))
  have hst : Stays (NeB g) (NeB g) w (w.setCell ⟨g, i * 18 + 17, none⟩ (.slice A b.length c)) := ⟨hch.size, fun q h1 h2 => ⟨hch.block q h1 (by have h3 : q ≠ g := h2; simpa using h3), h2⟩⟩
  refine ⟨by simpa using h.lt, ?_, ?_⟩
  · intro j y hy
    rw [put_body hx b j] at hy
    by_cases hj : j = i
    · subst hj
      rw [if_pos rfl] at hy
      injection hy with hy
      subst hy
      obtain ⟨a0, c0, h1, h2⟩ := h.cell j x hx
      refine ⟨A, c, fun t u ht => ?_, hb.on (NodeR.steady n) hst⟩
      by_cases h17 : t = 17
      · subst h17
        have hu : u = .slice A b.length c := by injection ht with ht; exact ht.symm
        subst hu
        exact World.cell?_setCell_same w ⟨g, j * 18 + 17, none⟩ _ (h1 17 _ rfl)
      · rw [World.cell?_setCell_other w ⟨g, j * 18 + 17, none⟩ ⟨g, j * 18 + t, none⟩ _ (by intro q; injection q with q q2; omega)]
        refine h1 t u ?_
        have ht18 : t < 18 := (List.getElem?_eq_some_iff.1 ht).1
        match t, ht18, h17, ht with
        | 0, _, _, ht | 1, _, _, ht | 2, _, _, ht | 3, _, _, ht | 4, _, _, ht | 5, _, _, ht | 6, _, _, ht | 7, _, _, ht | 8, _, _, ht | 9, _, _, ht | 10, _, _, ht | 11, _, _, ht | 12, _, _, ht | 13, _, _, ht | 14, _, _, ht | 15, _, _, ht | 16, _, _, ht => exact ht
        | 17, _, h, _ => exact absurd rfl h
    · rw [if_neg hj] at hy
      obtain ⟨a0, c0, h1, h2⟩ := h.cell j y hy
      refine ⟨a0, c0, fun t u ht => ?_, h2.on (NodeR.steady n) hst⟩
      have ht18 : t < 18 := (List.getElem?_eq_some_iff.1 ht).1
      rw [World.cell?_setCell_other w ⟨g, i * 18 + 17, none⟩ ⟨g, j * 18 + t, none⟩ _ (by intro q; injection q with q q2; omega)]
      exact h1 t u ht
  · intro j hj
    rw [List.length_set] at hj
    simpa using h.free j hj
set_option maxHeartbeats 4000000 in
set_option maxRecDepth 100000 in
theorem fold_any (n : Nat) (U : World → Nat → Prop) (hU : Lasts U) (a : Option Addr) (c : Nat) (l : List (UnitD n)) (w : World) (h : AtR (UnitR n) 18 U w a l) (hm : sumBy (bareU n) l ≤ 1048576) (ht : sumBy (textsU n) l ≤ 10000000000000) (hnum : ∀ x ∈ l, ∀ y ∈ x.body, numN n y) (hV : Vars w) :
    Calls Tryz.prog 16 #[.slice a l.length c] w (FoldTo n l w) := by
  have cK := hide (check_any n U hU a c l w h hm)
  have hlen : l.length ≤ 1048576 := Nat.le_trans (sumBy_len (bareU n) (fun x => Nat.le_add_right 1 _) l) hm
  obtain ⟨E, hE⟩ : ∃ E, checkU n l = E := ⟨_, rfl⟩
  simp only [hE] at cK
  by_cases h0 : E = 0
  · have hmay := check_may (hE.trans h0)
    have cU := hide (fun W (hb : Below w.heap.size w W) => clone_units n U a c l W (h.on (UnitR.steady n) (hU.stays hb)) (by omega))
    have H := hide h
    have HV := hide hV
    have HE := hide (hE.trans h0)
    have each : ∀ x ∈ l, sumBy (bareN n) x.body ≤ 1048576 ∧ sumBy (textsN n) x.body ≤ 10000000000000 := fun x hx => by
      have h1 := sumBy_mem (bareU n) l x hx
      have h2 : bareU n x = 1 + sumBy (bareN n) x.body := rfl
      have h3 := sumBy_mem (textsU n) l x hx
      have h4 : textsU n x = sumBy (textsN n) x.body := rfl
      omega
    have HX := hide each
    have HNUM := hide hnum
    have HMAY := hide hmay
    subst h0
    clear h hm ht hnum hV hmay hE each
    obtain ⟨m, hml⟩ : ∃ m, l.length = m := ⟨_, rfl⟩
    simp only [hml] at cK cU ⊢
    rw [hml] at hlen
    have HML := hide hml
    clear hml
    go_enter Tryz.func16, Tryz.ntmps16
    go_wp2_with fail
    refine cK.out.mono ?_
    rintro e w1 ⟨rfl, hb1⟩
    have HB1 := hide hb1
    clear hb1
    go_wp2_with fail
    refine (cU.out w1 HB1.out).mono ?_
    rintro e w2 ⟨v, es, rfl, hown, hes, hsz, hR, hb2⟩
    have hes' : es.length = m := hes.trans HML.out
    have hmp : 0 < m := by
      have h1 := HE.out
      unfold checkU at h1
      split at h1
      · cases h1
      · rename_i h2
        have := HML.out
        cases l with
        | nil => exact absurd rfl h2
        | cons _ _ => simp at this; omega
    obtain ⟨g, cv, rfl, hgc, hgb, hat⟩ := AtB.of_own hown (by omega)
    have hfree : ∀ j, w2.frozen? ⟨g, j, none⟩ = false := fun j => hown.frozenAt (cap := cv) j
    have hI : InvF n g w2 l := by
      refine ⟨hat.lt, fun j x hx => ?_, fun j _ => hfree j⟩
      have hj : j < es.length := by rw [hes]; exact (List.getElem?_eq_some_iff.1 hx).1
      have hej : es[j]? = some es[j] := List.getElem?_eq_getElem hj
      obtain ⟨a', c', e1, e2⟩ := hR j es[j] x hej hx
      refine ⟨a', c', fun t u ht => ?_, ?_⟩
      · rw [← e1] at ht
        have ht18 : t < 18 := by have := (List.getElem?_eq_some_iff.1 ht).1; rw [hsz es[j] (List.getElem_mem hj)] at this; exact this
        exact hat.cell (j * 18 + t) u ((flat_get hsz j es[j] t hej ht18).trans ht)
      · have h3 : AtR (NodeR n) 9 (lowB U w1) w1 a' x.body := e2.low (NodeR.steady n)
        exact h3.on (NodeR.steady n) ⟨hb2.size, fun b h4 h5 => ⟨hb2.block b h5.2, fun e => by have := h5.2; omega⟩⟩
    have HI := hide hI
    have HB2 := hide (HB1.out.trans (hb2.mono HB1.out.size))
    have hgw : w.heap.size ≤ g := Nat.le_trans HB1.out.size hgb
    rw [hes']
    clear hown hes hsz hR hb2 hat hfree hI hes' hgc
    go_wp2_with fail
    go_loopw [16] (fun iv wr => ∃ (i : Nat) (xs : List (UnitD n)), iv = .int .i64 (i : Int) ∧ i ≤ m ∧ xs.length = m ∧ Hid (∀ (j : Nat) (x : UnitD n), l[j]? = some x → (j < i → ∃ b : List (NT n), FoldsTo BB n x.body b ∧ xs[j]? = some ({ x with body := b } : UnitD n)) ∧ (i ≤ j → xs[j]? = some x)) ∧ Hid (InvF n g wr xs) ∧ Hid (Below w.heap.size w wr)) (fun iv _ => m - (intOf iv).toNat)
    case atStart => exact ⟨0, l, rfl, Nat.zero_le _, HML.out, hide (fun j x hx => ⟨fun hj => absurd hj (by omega), fun _ => hx⟩), HI, HB2⟩
    case round =>
      obtain ⟨i, xs, rfl, him, hxl, hF, hI, hB⟩ := hrel
      by_cases hlt : i < m
      · obtain ⟨x, hx⟩ : ∃ x, l[i]? = some x := ⟨_, List.getElem?_eq_getElem (by rw [HML.out]; exact hlt)⟩
        have hxm := List.mem_of_getElem? hx
        have hxi := (hF.out i x hx).2 (Nat.le_refl _)
        obtain ⟨a', c', hcell, hbody⟩ := hI.out.cell i x hxi
        have f17 := hcell 17 _ rfl
        have cA := hide (all_anyB n (NeB g) (lasts_ne g) a' c' x.body wr hbody (HX.out x hxm).1)
        have hji : (i : Int) < (m : Int) := by omega
        have hj9 : i < 1048576 := by omega
        have HLT := hide hlt
        have HXI := hide hxi
        have HXX := hide hx
        have HXM := hide hxm
        have lg := hI.out.lt
        obtain ⟨nb, hnb⟩ : ∃ k, x.body.length = k := ⟨_, rfl⟩
        have f17' : wr.cell? ⟨g, i * 18 + 17, none⟩ = some (.slice a' nb c') := by rw [← hnb]; exact f17
        rw [hnb] at cA
        clear hcell hbody hx hxi hxm f17 hlt
        go_wp2_with fail
        refine cA.out.mono ?_
        rintro e w3 ⟨A3, c3, es3, rfl, hR3, hb3⟩
        have hat3 := hR3.at_ (NodeR.steady n) rfl (Nat.le_refl _)
        have cN0 := nodes_any (m : Int) n wr.heap.size (fun _ => True) A3 c3 x.body w3 hb3.size (fun _ _ => trivial) (hat3.on (NodeR.steady n) ⟨Nat.le_refl _, fun b _ h => ⟨rfl, h, trivial⟩⟩) (HX.out x HXM.out).1 (HX.out x HXM.out).2 (HNUM.out x HXM.out) (by have := HMAY.out x HXM.out; rw [HML.out] at this; exact this) (HV.out.below (hB.out.trans (hb3.mono hB.out.size)))
        rw [hnb] at cN0
        have cN := hide cN0
        have HB3 := hide (hB.out.trans (hb3.mono hB.out.size))
        have HI3 := hide (hI.out.below hb3)
        have hs3 := hb3.size
        clear hR3 hb3 hat3 cN0 f17'
        go_wp2_with fail
        refine cN.out.mono ?_
        rintro e w4 ⟨A4, c4, b4, rfl, hF4, hat4, _, hb4⟩
        have HB4 := hide (HB3.out.trans (hb4.mono HB3.out.size))
        have HI4 := hide (HI3.out.below hb4)
        have hat5 : AtR (NodeR n) 9 (NeB g) w4 A4 b4 := hat4.on (NodeR.steady n) ⟨Nat.le_refl _, fun b _ h => ⟨rfl, by have h1 := h.1.1; intro e; have := hI.out.lt; omega⟩⟩
        have HP := hide (HI4.out.put (c := c4) HXI.out hat5)
        have HF4 := hide hF4
        have l4 := HI4.out.lt
        have z17 := HI4.out.free (i * 18 + 17) (by omega)
        obtain ⟨a6, c6, hcell6, _⟩ := HI4.out.cell i x HXI.out
        have f6 := hcell6 17 _ rfl
        clear hb4 hat4 hat5 hF4 hcell6
        have hlt := HLT.out
        go_wp2_with fail
        go_roundw
        case rel =>
          refine ⟨i + 1, xs.set i { x with body := b4 }, by go_num, by omega, by rw [List.length_set]; exact hxl, hide (fun j y hy => ?_), HP, hide (HB4.out.setCell (p := ⟨g, i * 18 + 17, none⟩) hgw _)⟩
          rw [put_body HXI.out b4 j]
          by_cases hj : j = i
          · subst hj
            rw [if_pos rfl]
            have := HXX.out.symm.trans hy
            injection this with this
            subst this
            exact ⟨fun _ => ⟨b4, HF4.out, rfl⟩, fun h => absurd h (by omega)⟩
          · rw [if_neg hj]
            exact ⟨fun h => (hF.out j y hy).1 (by omega), fun h => (hF.out j y hy).2 (by omega)⟩
        case measure => simp [intOf]; omega
      · obtain rfl : i = m := by omega
        have hif : decide ((i : Int) < (i : Int)) = false := by simp
        have HBB := hide hB.out
        clear hlt him
        go_wp2_with fail
        go_ret2
        refine .inr ⟨HE.out, g, cv, xs, by rw [HML.out]; rfl, ⟨hxl.trans HML.out.symm, fun j x hx => (hF.out j x hx).1 ?_⟩, hI.out.at_, HBB.out⟩
        have := (List.getElem?_eq_some_iff.1 hx).1
        have := HML.out
        omega
  · have eE : (E == 0) = false := by simpa using h0
    have HE := hide hE
    have H0 := hide h0
    obtain ⟨m, hml⟩ : ∃ m, l.length = m := ⟨_, rfl⟩
    simp only [hml] at cK ⊢
    clear h hm ht hnum hV hE h0 hml hlen
    go_enter Tryz.func16, Tryz.ntmps16
    go_wp2_with fail
    refine cK.out.mono ?_
    rintro e w1 ⟨rfl, hb1⟩
    have HB1 := hide hb1
    clear hb1
    go_wp2_with fail
    go_ret2
    exact .inl ⟨by rw [HE.out]; exact H0.out, by rw [HE.out]; rfl, HB1.out⟩
end Go.Proofs.YtnepogddjinpoaaGreatDoor

namespace Go.Proofs.YtnepogddjinpoaaGreatDoor
open Go.RowKit
set_option linter.unusedVariables false
set_option linter.unusedSimpArgs false

theorem name_codeS {P : Program} {c : Code} {Q : Exit → Act → World → Prop} {a : Act} {w : World} (h : ∀ W, w = W → c.wp P Q a W) : c.wp P Q a w := h w rfl
set_option maxHeartbeats 4000000 in
set_option maxRecDepth 100000 in
theorem samePipe_eq (U : World → Nat → Prop) (hU : Lasts U) (a1 a2 : Option Addr) (c1 c2 : Nat) (l : List CallD) (w : World) (h1 : AtR CallR 2 U w a1 l) (h2 : AtR CallR 2 U w a2 l) (hm : sumBy massC l ≤ 1048576) :
    Calls Tryz.prog 28 #[.slice a1 l.length c1, .slice a2 l.length c2] w fun e w' => e = .returned (.bool true) ∧ Below w.heap.size w w' := by
  have hlen : l.length ≤ 1048576 := Nat.le_trans (sumBy_len massC massC_pos l) hm
  have H1 := hide h1; have H2 := hide h2; have HM := hide hm
  clear h1 h2 hm
  go_enter Tryz.func28, Tryz.ntmps28
  go_wp2_with fail
  go_loopw [5] (fun iv wr => ∃ (i : Nat), iv = .int .i64 (i : Int) ∧ i ≤ l.length ∧ Hid (Below w.heap.size w wr)) (fun iv _ => l.length - (intOf iv).toNat)
  case atStart => exact ⟨0, rfl, Nat.zero_le _, Below.refl _ _⟩
  case round =>
    obtain ⟨i, rfl, hil, hJ⟩ := hrel
    by_cases hlt : i < l.length
    · obtain ⟨x, hx⟩ : ∃ x, l[i]? = some x := ⟨_, List.getElem?_eq_getElem hlt⟩
      obtain ⟨g1, o1, vs1, rfl, hg1, _, _, hcell1, hN1⟩ := H1.out i x hx
      obtain ⟨g2, o2, vs2, rfl, hg2, _, _, hcell2, hN2⟩ := H2.out i x hx
      obtain ⟨b1, d1, rfl, q1⟩ := hN1
      obtain ⟨b2, d2, rfl, q2⟩ := hN2
      have hxa : x.args.length ≤ 1048576 := by
        have e1 := sumBy_mem massC l x (List.mem_of_getElem? hx)
        have e2 := sumBy_len massA massA_pos x.args
        have e3 := HM.out
        have e4 : sumBy massA x.args ≤ massC x := by unfold massC; omega
        omega
      have HXM := hide (show massC x ≤ 1048576 from Nat.le_trans (sumBy_mem massC l x (List.mem_of_getElem? hx)) HM.out)
      have F := hide (fun (W : World) (hb : Below w.heap.size w W) => And.intro ((cellB (hb.block g1 hg1) _).trans (hcell1 0 _ rfl)) (And.intro ((cellB (hb.block g1 hg1) _).trans (hcell1 1 _ rfl)) (And.intro ((cellB (hb.block g2 hg2) _).trans (hcell2 0 _ rfl)) ((cellB (hb.block g2 hg2) _).trans (hcell2 1 _ rfl)))))
      have Q1 := hide q1; have Q2 := hide q2
      obtain ⟨f0, f1, f2, f3⟩ := F.out wr hJ.out
      simp only [Nat.add_zero] at f0 f2
      have hji : (i : Int) < (l.length : Int) := by omega
      have hi9 : i < 1048576 := by omega
      have HLT := hide hlt
      clear hcell1 hcell2 hx q1 q2 hlt hil hlen
      go_wp2_with fail
      go_quiet (fail)
      go_wp2_with fail
      have hJ2 := hide (below_drewN hJ.out nq)
      obtain ⟨wo, hwo⟩ : ∃ x, x = wr := ⟨_, rfl⟩
      subst hwo
      clear f0 f1 f2 f3
      go_loopw [6] (fun kv wr2 => ∃ (k : Nat), kv = .int .i64 (k : Int) ∧ k ≤ x.args.length ∧ Hid (Below w.heap.size w wr2)) (fun kv _ => x.args.length - (intOf kv).toNat)
      case atStart => exact ⟨0, rfl, Nat.zero_le _, hJ2⟩
      case round =>
        obtain ⟨k, rfl, hkl, hJ3⟩ := hrel
        obtain ⟨f0, f1, f2, f3⟩ := F.out wr hJ3.out
        simp only [Nat.add_zero] at f0 f2
        by_cases hlt2 : k < x.args.length
        · obtain ⟨y, hy⟩ : ∃ y, x.args[k]? = some y := ⟨_, List.getElem?_eq_getElem hlt2⟩
          obtain ⟨g3, o3, vs3, rfl, hg3, _, _, hcell3, hN3⟩ := Q1.out k y hy
          obtain ⟨g4, o4, vs4, rfl, hg4, _, _, hcell4, hN4⟩ := Q2.out k y hy
          obtain ⟨p1, e1, rfl, r1⟩ := hN3
          obtain ⟨p2, e2, rfl, r2⟩ := hN4
          have hB3 := hJ3.out.block g3 hg3
          have hB4 := hJ3.out.block g4 hg4
          have m0 := (cellB hB3 _).trans (hcell3 0 _ rfl); have m1 := (cellB hB3 _).trans (hcell3 1 _ rfl); have m2 := (cellB hB3 _).trans (hcell3 2 _ rfl); have m3 := (cellB hB3 _).trans (hcell3 3 _ rfl); have m4 := (cellB hB3 _).trans (hcell3 4 _ rfl)
          have n0 := (cellB hB4 _).trans (hcell4 0 _ rfl); have n1 := (cellB hB4 _).trans (hcell4 1 _ rfl); have n2 := (cellB hB4 _).trans (hcell4 2 _ rfl); have n3 := (cellB hB4 _).trans (hcell4 3 _ rfl); have n4 := (cellB hB4 _).trans (hcell4 4 _ rfl)
          simp only [Nat.add_zero] at m0 n0
          have hsz3 := hJ3.out.size
          have hg1m : g1 < wr.heap.size := by omega
          have hg2m : g2 < wr.heap.size := by omega
          have hg3m : g3 < wr.heap.size := by omega
          have hg4m : g4 < wr.heap.size := by omega
          have hki : (k : Int) < (x.args.length : Int) := by omega
          have hk9 : k < 1048576 := by omega
          have hyp : y.path.length ≤ 1048576 := by
            have e1 := sumBy_mem massA x.args y (List.mem_of_getElem? hy)
            have e2 := sumBy_len (fun p : List UInt8 => p.length + 1) (fun p => by omega) y.path
            have e3 := HXM.out
            have e4 : sumBy massA x.args ≤ massC x := by unfold massC; omega
            have e5 : sumBy (fun p : List UInt8 => p.length + 1) y.path ≤ massA y := by unfold massA; omega
            omega
          have R1 := hide r1; have R2 := hide r2
          have HLT2 := hide hlt2
          obtain ⟨wm, hwm⟩ : ∃ x, x = wr := ⟨_, rfl⟩
          subst hwm
          clear hcell3 hcell4 r1 r2 hy hlt2 hkl hB3 hB4
          go_wp2_with fail
          go_region
          all_goals
            go_wp2_with fail
            refine name_codeS fun W hW => ?_
            have C1 : Chg [] wm W := by subst hW; (repeat' (first | with_reducible exact Chg.refl _ _ | with_reducible refine Chg.alloc ?_ _ | with_reducible refine Chg.drew ?_ | with_reducible refine Chg.drewN ?_ _ | with_reducible refine Chg.set_ ?_ _ _ (by first | (simp; done) | (simp; omega) | omega)))
            first
              | (have K7 : Blk W wm.heap.size 35 #[.int .i64 y.k, .string ⟨y.nm.toArray⟩, .slice p1 y.path.length e1, .int .i64 y.i, .string ⟨y.s.toArray⟩] := by subst hW; (repeat' (first | with_reducible exact Blk.new_ (by first | rfl | (simp; done) | (simp; omega)) | with_reducible refine Blk.alloc_ ?_ | with_reducible refine Blk.drew ?_ | with_reducible refine Blk.drewN ?_ _ | with_reducible refine Blk.far_ ?_ (by first | (simp; done) | (simp; omega) | omega) | with_reducible apply Blk.set_eq | rfl))
                 have K8 : Blk W (wm.heap.size + 1) 35 #[.int .i64 y.k, .string ⟨y.nm.toArray⟩, .slice p2 y.path.length e2, .int .i64 y.i, .string ⟨y.s.toArray⟩] := by subst hW; (repeat' (first | with_reducible exact Blk.new_ (by first | rfl | (simp; done) | (simp; omega)) | with_reducible refine Blk.alloc_ ?_ | with_reducible refine Blk.drew ?_ | with_reducible refine Blk.drewN ?_ _ | with_reducible refine Blk.far_ ?_ (by first | (simp; done) | (simp; omega) | omega) | with_reducible apply Blk.set_eq | rfl))
                 have HK7 := hide K7; have HK8 := hide K8
                 clear K7 K8)
              | (have K7 : Blk W (wm.heap.size + 1) 35 #[.int .i64 y.k, .string ⟨y.nm.toArray⟩, .slice p1 y.path.length e1, .int .i64 y.i, .string ⟨y.s.toArray⟩] := by subst hW; (repeat' (first | with_reducible exact Blk.new_ (by first | rfl | (simp; done) | (simp; omega)) | with_reducible refine Blk.alloc_ ?_ | with_reducible refine Blk.drew ?_ | with_reducible refine Blk.drewN ?_ _ | with_reducible refine Blk.far_ ?_ (by first | (simp; done) | (simp; omega) | omega) | with_reducible apply Blk.set_eq | rfl))
                 have K8 : Blk W wm.heap.size 35 #[.int .i64 y.k, .string ⟨y.nm.toArray⟩, .slice p2 y.path.length e2, .int .i64 y.i, .string ⟨y.s.toArray⟩] := by subst hW; (repeat' (first | with_reducible exact Blk.new_ (by first | rfl | (simp; done) | (simp; omega)) | with_reducible refine Blk.alloc_ ?_ | with_reducible refine Blk.drew ?_ | with_reducible refine Blk.drewN ?_ _ | with_reducible refine Blk.far_ ?_ (by first | (simp; done) | (simp; omega) | omega) | with_reducible apply Blk.set_eq | rfl))
                 have HK7 := hide K7; have HK8 := hide K8
                 clear K7 K8)
            have HW := hide (hJ3.out.trans (C1.bel.mono hJ3.out.size))
            clear hW m0 m1 m2 m3 m4 n0 n1 n2 n3 n4 f0 f1 f2 f3 C1
            go_loopw [9] (fun mv wr => ∃ (m : Nat), mv = .int .i64 (m : Int) ∧ m ≤ y.path.length ∧ Hid (Below W.heap.size W wr)) (fun mv _ => y.path.length - (intOf mv).toNat)
            case atStart => exact ⟨0, rfl, Nat.zero_le _, Below.refl _ _⟩
            case round =>
              obtain ⟨m, rfl, hml, hJ4⟩ := hrel
              have KA := HK7.out.chg (Chg.of_below (S := []) hJ4.out) (by simp)
              have KB := HK8.out.chg (Chg.of_below (S := []) hJ4.out) (by simp)
              have k7 := KA.cell 2; have k8 := KB.cell 2
              simp at k7 k8
              clear KA KB
              by_cases hlt3 : m < y.path.length
              · obtain ⟨z, hz⟩ : ∃ z, y.path[m]? = some z := ⟨_, List.getElem?_eq_getElem hlt3⟩
                obtain ⟨g5, o5, vs5, rfl, hg5, _, _, hcell5, hN5⟩ := R1.out m z hz
                obtain ⟨g6, o6, vs6, rfl, hg6, _, _, hcell6, hN6⟩ := R2.out m z hz
                obtain rfl := (hN5 : vs5 = _)
                obtain rfl := (hN6 : vs6 = _)
                have hBw := HW.out.trans (hJ4.out.mono HW.out.size)
                have t5 := (cellB (hBw.block g5 hg5) _).trans (hcell5 0 _ rfl)
                have t6 := (cellB (hBw.block g6 hg6) _).trans (hcell6 0 _ rfl)
                simp only [Nat.add_zero, Nat.mul_one] at t5 t6
                have hmi : (m : Int) < (y.path.length : Int) := by omega
                have hm9 : m < 1048576 := by omega
                have HLT3 := hide hlt3
                clear hcell5 hcell6 hz hlt3 hml hBw
                go_wp2_with fail
                go_quiet (fail)
                go_wp2_with fail
                have hlt3 := HLT3.out
                go_roundw
                case rel => exact ⟨m + 1, by go_num, by omega, hide (below_drewN hJ4.out nq)⟩
                case measure => simp [intOf]; omega
              · obtain rfl : m = y.path.length := by omega
                have hif : decide ((y.path.length : Int) < (y.path.length : Int)) = false := by simp
                clear hml hlt3
                go_wp2_with fail
                have hlt2 := HLT2.out
                go_roundw
                case rel => exact ⟨k + 1, by go_num, by omega, hide (HW.out.trans (hJ4.out.mono HW.out.size))⟩
                case measure => simp [intOf]; omega
        · obtain rfl : k = x.args.length := by omega
          have hif : decide ((x.args.length : Int) < (x.args.length : Int)) = false := by simp
          clear hkl hlt2
          go_wp2_with fail
          have hlt := HLT.out
          go_roundw
          case rel => exact ⟨i + 1, by go_num, by omega, hJ3⟩
          case measure => simp [intOf]; omega
    · obtain rfl : i = l.length := by omega
      have hif : decide ((l.length : Int) < (l.length : Int)) = false := by simp
      clear hil hlt
      go_wp2_with fail
      go_ret
      exact ⟨rfl, hJ.out⟩
end Go.Proofs.YtnepogddjinpoaaGreatDoor

namespace Go.Proofs.YtnepogddjinpoaaGreatDoor
open Go.RowKit
set_option linter.unusedVariables false
set_option linter.unusedSimpArgs false

def SameOf (w : World) (e : Ending) (w' : World) : Prop := e = .returned (.bool true) ∧ Below w.heap.size w w'
set_option maxHeartbeats 4000000 in
set_option maxRecDepth 100000 in
theorem same_step (m : Nat) (l : List (NN (NT m))) (ih : l ≠ [] → ∀ (U : World → Nat → Prop) (hU : Lasts U) (a1 a2 : Option Addr) (c1 c2 : Nat) (l : List (NT m)) (w : World), AtR (NodeR m) 9 U w a1 l → AtR (NodeR m) 9 U w a2 l → sumBy (bareN m) l ≤ 1048576 → Calls Tryz.prog 14 #[.slice a1 l.length c1, .slice a2 l.length c2, .bool true] w (SameOf w))
    (U : World → Nat → Prop) (hU : Lasts U) (a1 a2 : Option Addr) (c1 c2 : Nat) (w : World) (h1 : AtR (NodeR (m + 1)) 9 U w a1 l) (h2 : AtR (NodeR (m + 1)) 9 U w a2 l) (hm : sumBy (bareN (m + 1)) l ≤ 1048576) : Calls Tryz.prog 14 #[.slice a1 l.length c1, .slice a2 l.length c2, .bool true] w (SameOf w) := by
  have hlen : l.length ≤ 1048576 := Nat.le_trans (sumBy_len (bareN (m + 1)) bareN_pos l) hm
  have H1 := hide h1; have H2 := hide h2; have HM := hide hm
  clear h1 h2 hm
  go_enter Tryz.func14, Tryz.ntmps14
  go_wp2_with fail
  go_loopw [7] (fun iv wr => ∃ (i : Nat), iv = .int .i64 (i : Int) ∧ i ≤ l.length ∧ Hid (Below w.heap.size w wr)) (fun iv _ => l.length - (intOf iv).toNat)
  case atStart => exact ⟨0, rfl, Nat.zero_le _, Below.refl _ _⟩
  case round =>
    obtain ⟨i, rfl, hil, hJ⟩ := hrel
    by_cases hlt : i < l.length
    · obtain ⟨x, hx⟩ : ∃ x, l[i]? = some x := ⟨_, List.getElem?_eq_getElem hlt⟩
      obtain ⟨g1, o1, vs1, rfl, hg1, _, _, hcell1, hN1⟩ := (H1.out.on (NodeR.steady (m + 1)) (hU.stays hJ.out)) i x hx
      obtain ⟨g2, o2, vs2, rfl, hg2, _, _, hcell2, hN2⟩ := (H2.out.on (NodeR.steady (m + 1)) (hU.stays hJ.out)) i x hx
      obtain ⟨p1, d1, b1, t1, e1, s1, rfl, q1, q2, q3⟩ := hN1.parts
      obtain ⟨p2, d2, b2, t2, e2, s2, rfl, r1, r2, r3⟩ := hN2.parts
      have m0 := hcell1 0 _ rfl; have m1 := hcell1 1 _ rfl; have m2 := hcell1 2 _ rfl; have m3 := hcell1 3 _ rfl; have m4 := hcell1 4 _ rfl; have m5 := hcell1 5 _ rfl; have m6 := hcell1 6 _ rfl; have m7 := hcell1 7 _ rfl; have m8 := hcell1 8 _ rfl
      have n0 := hcell2 0 _ rfl; have n1 := hcell2 1 _ rfl; have n2 := hcell2 2 _ rfl; have n3 := hcell2 3 _ rfl; have n4 := hcell2 4 _ rfl; have n5 := hcell2 5 _ rfl; have n6 := hcell2 6 _ rfl; have n7 := hcell2 7 _ rfl; have n8 := hcell2 8 _ rfl
      simp only [Nat.add_zero] at m0 n0
      have hji : (i : Int) < (l.length : Int) := by omega
      have hxm := sumBy_mem (bareN (m + 1)) l x (List.mem_of_getElem? hx)
      rw [bareN_succ] at hxm
      have hm1 : sumBy massC x.pipe ≤ 1048576 := by have := HM.out; omega
      have hm2 : sumBy (bareN m) x.body ≤ 1048576 := by have := HM.out; omega
      have hm3 : sumBy (bareN m) x.els ≤ 1048576 := by have := HM.out; omega
      have hne : l ≠ [] := fun e => by rw [e] at hlt; exact absurd hlt (Nat.not_lt_zero _)
      have cP := hide (fun (W' : World) (h : Below wr.heap.size wr W') => samePipe_eq U hU p1 p2 d1 d2 x.pipe W' (q1.on CallR.steady (hU.stays h)) (r1.on CallR.steady (hU.stays h)) hm1)
      have cB : Hid (∀ (W' : World), Below wr.heap.size wr W' → Calls Tryz.prog 14 #[.slice b1 x.body.length t1, .slice b2 x.body.length t2, .bool true] W' fun e w' => e = .returned (.bool true) ∧ Below W'.heap.size W' w') := hide (fun (W' : World) (h : Below wr.heap.size wr W') => ih hne U hU b1 b2 t1 t2 x.body W' (q2.on (NodeR.steady m) (hU.stays h)) (r2.on (NodeR.steady m) (hU.stays h)) hm2)
      have cE : Hid (∀ (W' : World), Below wr.heap.size wr W' → Calls Tryz.prog 14 #[.slice e1 x.els.length s1, .slice e2 x.els.length s2, .bool true] W' fun e w' => e = .returned (.bool true) ∧ Below W'.heap.size W' w') := hide (fun (W' : World) (h : Below wr.heap.size wr W') => ih hne U hU e1 e2 s1 s2 x.els W' (q3.on (NodeR.steady m) (hU.stays h)) (r3.on (NodeR.steady m) (hU.stays h)) hm3)
      have hi9 : i < 1048576 := by omega
      have HLT := hide hlt
      clear hcell1 hcell2 hN1 hN2 q1 q2 q3 r1 r2 r3 hx hxm hm1 hm2 hm3 hne hil hlen hlt
      go_wp2_with fail
      go_region
      all_goals
        go_wp2_with fail
        refine name_world fun W hW => ?_
        have C1 : Chg [] wr W := by subst hW; (repeat' (first | with_reducible exact Chg.refl _ _ | with_reducible refine Chg.alloc ?_ _ | with_reducible refine Chg.drew ?_ | with_reducible refine Chg.drewN ?_ _ | with_reducible refine Chg.set_ ?_ _ _ (by first | (simp; done) | (simp; omega) | omega)))
        first
          | (have K7 : Blk W wr.heap.size 61 ⟨nodeCells x.k ⟨x.s.toArray⟩ ⟨x.nm.toArray⟩ p1 x.pipe.length d1 b1 x.body.length t1 e1 x.els.length s1 x.pos x.esc x.unit⟩ := by subst hW; (repeat' (first | with_reducible exact Blk.new_ (by first | rfl | (simp; done) | (simp; omega)) | with_reducible refine Blk.alloc_ ?_ | with_reducible refine Blk.drew ?_ | with_reducible refine Blk.drewN ?_ _ | with_reducible refine Blk.far_ ?_ (by first | (simp; done) | (simp; omega) | omega) | with_reducible apply Blk.set_eq | rfl))
             have K8 : Blk W (wr.heap.size + 1) 61 ⟨nodeCells x.k ⟨x.s.toArray⟩ ⟨x.nm.toArray⟩ p2 x.pipe.length d2 b2 x.body.length t2 e2 x.els.length s2 x.pos x.esc x.unit⟩ := by subst hW; (repeat' (first | with_reducible exact Blk.new_ (by first | rfl | (simp; done) | (simp; omega)) | with_reducible refine Blk.alloc_ ?_ | with_reducible refine Blk.drew ?_ | with_reducible refine Blk.drewN ?_ _ | with_reducible refine Blk.far_ ?_ (by first | (simp; done) | (simp; omega) | omega) | with_reducible apply Blk.set_eq | rfl))
             have HK7 := hide K7; have HK8 := hide K8
             clear K7 K8)
          | (have K7 : Blk W (wr.heap.size + 1) 61 ⟨nodeCells x.k ⟨x.s.toArray⟩ ⟨x.nm.toArray⟩ p1 x.pipe.length d1 b1 x.body.length t1 e1 x.els.length s1 x.pos x.esc x.unit⟩ := by subst hW; (repeat' (first | with_reducible exact Blk.new_ (by first | rfl | (simp; done) | (simp; omega)) | with_reducible refine Blk.alloc_ ?_ | with_reducible refine Blk.drew ?_ | with_reducible refine Blk.drewN ?_ _ | with_reducible refine Blk.far_ ?_ (by first | (simp; done) | (simp; omega) | omega) | with_reducible apply Blk.set_eq | rfl))
             have K8 : Blk W wr.heap.size 61 ⟨nodeCells x.k ⟨x.s.toArray⟩ ⟨x.nm.toArray⟩ p2 x.pipe.length d2 b2 x.body.length t2 e2 x.els.length s2 x.pos x.esc x.unit⟩ := by subst hW; (repeat' (first | with_reducible exact Blk.new_ (by first | rfl | (simp; done) | (simp; omega)) | with_reducible refine Blk.alloc_ ?_ | with_reducible refine Blk.drew ?_ | with_reducible refine Blk.drewN ?_ _ | with_reducible refine Blk.far_ ?_ (by first | (simp; done) | (simp; omega) | omega) | with_reducible apply Blk.set_eq | rfl))
             have HK7 := hide K7; have HK8 := hide K8
             clear K7 K8)
        clear hW m0 m1 m2 m3 m4 m5 m6 m7 m8 n0 n1 n2 n3 n4 n5 n6 n7 n8
        refine (cP.out W C1.bel).mono ?_
        rintro e w1 ⟨rfl, hb1⟩
        have C2 := C1.trans (Chg.of_below (S := []) hb1) (by simp)
        have A7 := HK7.out.chg (Chg.of_below (S := []) hb1) (by simp)
        have A8 := HK8.out.chg (Chg.of_below (S := []) hb1) (by simp)
        have k4 := A7.cell 4; have j4 := A8.cell 4; simp at k4 j4
        have z7 := A7.lt; have z8 := A8.lt
        clear hb1 C1
        go_wp2_with fail
        refine (cB.out w1 C2.bel).mono ?_
        rintro e w2 ⟨rfl, hb2⟩
        have C3 := C2.trans (Chg.of_below (S := []) hb2) (by simp)
        have A7 := A7.chg (Chg.of_below (S := []) hb2) (by simp)
        have A8 := A8.chg (Chg.of_below (S := []) hb2) (by simp)
        clear k4 j4 z7 z8
        have k5 := A7.cell 5; have j5 := A8.cell 5; simp at k5 j5
        have z7 := A7.lt; have z8 := A8.lt
        clear hb2 C2
        go_wp2_with fail
        refine (cE.out w2 C3.bel).mono ?_
        rintro e w3 ⟨rfl, hb3⟩
        have C4 := hide (C3.trans (Chg.of_below (S := []) hb3) (by simp))
        have A7 := A7.chg (Chg.of_below (S := []) hb3) (by simp)
        have A8 := A8.chg (Chg.of_below (S := []) hb3) (by simp)
        clear k5 j5 z7 z8
        have k6 := A7.cell 6; have j6 := A8.cell 6; have k7 := A7.cell 7; have j7 := A8.cell 7; have k8 := A7.cell 8; have j8 := A8.cell 8; simp at k6 j6 k7 j7 k8 j8
        have z7 := A7.lt; have z8 := A8.lt
        clear hb3 C3 A7 A8
        go_wp2_with fail
        have hlt := HLT.out
        go_roundw
        case rel => exact ⟨i + 1, by go_num, by omega, hide (hJ.out.trans (C4.out.bel.mono hJ.out.size))⟩
        case measure => simp [intOf]; omega
    · obtain rfl : i = l.length := by omega
      have hif : decide ((l.length : Int) < (l.length : Int)) = false := by simp
      clear hil hlt
      go_wp2_with fail
      go_ret
      exact ⟨rfl, hJ.out⟩
theorem same_none (U : World → Nat → Prop) (hU : Lasts U) (a1 a2 : Option Addr) (c1 c2 : Nat) (l : List (NT 0)) (w : World) : Calls Tryz.prog 14 #[.slice a1 l.length c1, .slice a2 l.length c2, .bool true] w (SameOf w) := by
  obtain rfl : l = [] := by
    cases l with
    | nil => rfl
    | cons x l => exact x.elim
  exact (same_step 0 [] (fun h => absurd rfl h) U hU a1 a2 c1 c2 w AtR.nil AtR.nil (Nat.zero_le _)).mono fun e w' h => h
theorem same_eqB : ∀ (n : Nat) (U : World → Nat → Prop) (hU : Lasts U) (a1 a2 : Option Addr) (c1 c2 : Nat) (l : List (NT n)) (w : World), AtR (NodeR n) 9 U w a1 l → AtR (NodeR n) 9 U w a2 l → sumBy (bareN n) l ≤ 1048576 → Calls Tryz.prog 14 #[.slice a1 l.length c1, .slice a2 l.length c2, .bool true] w (SameOf w) := by
  intro n
  induction n with
  | zero => exact fun U hU a1 a2 c1 c2 l w _ _ _ => same_none U hU a1 a2 c1 c2 l w
  | succ m ih => exact fun U hU a1 a2 c1 c2 l w h1 h2 hm => same_step m l (fun _ => ih) U hU a1 a2 c1 c2 w h1 h2 hm
end Go.Proofs.YtnepogddjinpoaaGreatDoor

namespace Go.Proofs.YtnepogddjinpoaaGreatDoor
open Go.RowKit
set_option linter.unusedVariables false
set_option linter.unusedSimpArgs false

def sameV (k : Int) (el at_ : ByteArray) (d : Int) (pe re : ByteArray) (pa : Int) (wo : ByteArray) (k2 : Int) (el2 at2 : ByteArray) (d2 : Int) (pe2 re2 : ByteArray) (pa2 : Int) (wo2 : ByteArray) : Bool :=
  (k == k2) && ((el.toList == el2.toList) && ((at_.toList == at2.toList) && ((d == d2) && ((pe.toList == pe2.toList) && ((re.toList == re2.toList) && ((pa == pa2) && (wo.toList == wo2.toList)))))))
@[go_sem high] theorem eqState (k : Int) (el at_ : ByteArray) (d : Int) (pe re : ByteArray) (pa : Int) (wo : ByteArray) (k2 : Int) (el2 at2 : ByteArray) (d2 : Int) (pe2 re2 : ByteArray) (pa2 : Int) (wo2 : ByteArray) (w : World) :
    (Op.equalIn 10000 57 (.agg #[.int .i64 k, .string el, .string at_, .int .u8 d, .string pe, .string re, .int .i64 pa, .string wo]) (.agg #[.int .i64 k2, .string el2, .string at2, .int .u8 d2, .string pe2, .string re2, .int .i64 pa2, .string wo2])).run Tryz.prog w
      = .ok (sameV k el at_ d pe re pa wo k2 el2 at2 d2 pe2 re2 pa2 wo2) w := by
  have hS : Tryz.prog.underlying 57 = some (.struct (Tryz.prog.fieldsOf 57)) := by kernel_rfl
  have hp : Tryz.prog.stoodInHeld 57 = false := by kernel_rfl
  rw [show (10000 : Nat) = 9999 + 1 from rfl, run_equalIn_agg w 9999 57 _ _ hS hp]
  unfold sameV
  simp only [Program.fieldsOf, Tryz.underlying57]
  go_simp
  by_cases h0 : k = k2
  rotate_left
  · simp [h0]
  by_cases h1 : el.toList = el2.toList
  rotate_left
  · simp [h0, h1]
  by_cases h2 : at_.toList = at2.toList
  rotate_left
  · simp [h0, h1, h2]
  by_cases h3 : d = d2
  rotate_left
  · simp [h0, h1, h2, h3]
  by_cases h4 : pe.toList = pe2.toList
  rotate_left
  · simp [h0, h1, h2, h3, h4]
  by_cases h5 : re.toList = re2.toList
  rotate_left
  · simp [h0, h1, h2, h3, h4, h5]
  by_cases h6 : pa = pa2
  rotate_left
  · simp [h0, h1, h2, h3, h4, h5, h6]
  by_cases h7 : wo.toList = wo2.toList
  rotate_left
  · simp [h0, h1, h2, h3, h4, h5, h6, h7]
  simp [h0, h1, h2, h3, h4, h5, h6, h7]
end Go.Proofs.YtnepogddjinpoaaGreatDoor

namespace Go.Proofs.YtnepogddjinpoaaGreatDoor
open Go.RowKit
set_option linter.unusedVariables false
set_option linter.unusedSimpArgs false

set_option maxHeartbeats 8000000 in
set_option maxRecDepth 100000 in
theorem sameU (n : Nat) (U : World → Nat → Prop) (hU : Lasts U) (a1 a2 : Option Addr) (c1 c2 : Nat) (l : List (UnitD n)) (w : World) (h1 : AtR (UnitR n) 18 U w a1 l) (h2 : AtR (UnitR n) 18 U w a2 l) (hm : sumBy (bareU n) l ≤ 1048576) :
    Calls Tryz.prog 18 #[.slice a1 l.length c1, .slice a2 l.length c2] w (SameOf w) := by
  have hlen : l.length ≤ 1048576 := Nat.le_trans (sumBy_len (bareU n) (fun x => Nat.le_add_right 1 _) l) hm
  have each : ∀ x ∈ l, sumBy (bareN n) x.body ≤ 1048576 := fun x hx => by
    have h1 := sumBy_mem (bareU n) l x hx
    have h2 : bareU n x = 1 + sumBy (bareN n) x.body := rfl
    omega
  have H1 := hide h1; have H2 := hide h2; have HX := hide each
  clear h1 h2 hm each
  go_enter Tryz.func18, Tryz.ntmps18
  go_wp2_with fail
  go_loopw [5] (fun iv wr => ∃ (i : Nat), iv = .int .i64 (i : Int) ∧ i ≤ l.length ∧ Hid (Below w.heap.size w wr)) (fun iv _ => l.length - (intOf iv).toNat)
  case atStart => exact ⟨0, rfl, Nat.zero_le _, Below.refl _ _⟩
  case round =>
    obtain ⟨i, rfl, hil, hJ⟩ := hrel
    by_cases hlt : i < l.length
    · obtain ⟨x, hx⟩ : ∃ x, l[i]? = some x := ⟨_, List.getElem?_eq_getElem hlt⟩
      obtain ⟨g1, o1, vs1, rfl, hg1, _, _, hcell1, hN1⟩ := (H1.out.on (UnitR.steady n) (hU.stays hJ.out)) i x hx
      obtain ⟨g2, o2, vs2, rfl, hg2, _, _, hcell2, hN2⟩ := (H2.out.on (UnitR.steady n) (hU.stays hJ.out)) i x hx
      obtain ⟨b1, t1, rfl, q1⟩ := hN1
      obtain ⟨b2, t2, rfl, q2⟩ := hN2
      have hbx := HX.out x (List.mem_of_getElem? hx)
      have cS : Hid (∀ (W' : World), Below wr.heap.size wr W' → Calls Tryz.prog 14 #[.slice b1 x.body.length t1, .slice b2 x.body.length t2, .bool true] W' fun e w' => e = .returned (.bool true) ∧ Below W'.heap.size W' w') := hide (fun (W' : World) (h : Below wr.heap.size wr W') => same_eqB n U hU b1 b2 t1 t2 x.body W' (q1.on (NodeR.steady n) (hU.stays h)) (q2.on (NodeR.steady n) (hU.stays h)) hbx)
      obtain ⟨nm, ⟨fk, fe, fa, fd, fp, fr, fq, fw⟩, ⟨tk, te, ta, td, tp, tr, tq, tw⟩, body⟩ := x
      simp only at cS
      have m0 := hcell1 0 _ rfl; have m1 := hcell1 1 _ rfl; have m2 := hcell1 2 _ rfl; have m3 := hcell1 3 _ rfl; have m4 := hcell1 4 _ rfl; have m5 := hcell1 5 _ rfl; have m6 := hcell1 6 _ rfl; have m7 := hcell1 7 _ rfl; have m8 := hcell1 8 _ rfl; have m9 := hcell1 9 _ rfl; have m10 := hcell1 10 _ rfl; have m11 := hcell1 11 _ rfl; have m12 := hcell1 12 _ rfl; have m13 := hcell1 13 _ rfl; have m14 := hcell1 14 _ rfl; have m15 := hcell1 15 _ rfl; have m16 := hcell1 16 _ rfl; have m17 := hcell1 17 _ rfl
      have n0 := hcell2 0 _ rfl; have n1 := hcell2 1 _ rfl; have n2 := hcell2 2 _ rfl; have n3 := hcell2 3 _ rfl; have n4 := hcell2 4 _ rfl; have n5 := hcell2 5 _ rfl; have n6 := hcell2 6 _ rfl; have n7 := hcell2 7 _ rfl; have n8 := hcell2 8 _ rfl; have n9 := hcell2 9 _ rfl; have n10 := hcell2 10 _ rfl; have n11 := hcell2 11 _ rfl; have n12 := hcell2 12 _ rfl; have n13 := hcell2 13 _ rfl; have n14 := hcell2 14 _ rfl; have n15 := hcell2 15 _ rfl; have n16 := hcell2 16 _ rfl; have n17 := hcell2 17 _ rfl
      simp only [Nat.add_zero] at m0 n0
      have sf : sameV fk fe fa fd fp fr fq fw fk fe fa fd fp fr fq fw = true := by simp [sameV]
      have st : sameV tk te ta td tp tr tq tw tk te ta td tp tr tq tw = true := by simp [sameV]
      obtain ⟨nb, hnb⟩ : ∃ k, body.length = k := ⟨_, rfl⟩
      simp only [hnb] at m17 n17 cS
      have hji : (i : Int) < (l.length : Int) := by omega
      have hi9 : i < 1048576 := by omega
      have HLT := hide hlt
      clear hcell1 hcell2 q1 q2 hx hil hlen hlt hnb hbx
      go_wp2_with fail
      refine name_codeS fun W hW => ?_
      subst hW
      refine wp_region_below (W := wr) (by kernel_rfl) (by kernel_rfl) (Below.refl _ _) ?_
      repeat (first
        | go_big_quiet_skip
        | (apply wpQuiet_one (by rfl)
           · intro w' hw'
             have B1 := hw'.block g1 hg1
             have B2 := hw'.block g2 hg2
             have y0 := (cellB B1 _).trans m0; have y1 := (cellB B1 _).trans m1; have y2 := (cellB B1 _).trans m2; have y3 := (cellB B1 _).trans m3; have y4 := (cellB B1 _).trans m4; have y5 := (cellB B1 _).trans m5; have y6 := (cellB B1 _).trans m6; have y7 := (cellB B1 _).trans m7; have y8 := (cellB B1 _).trans m8; have y9 := (cellB B1 _).trans m9; have y10 := (cellB B1 _).trans m10; have y11 := (cellB B1 _).trans m11; have y12 := (cellB B1 _).trans m12; have y13 := (cellB B1 _).trans m13; have y14 := (cellB B1 _).trans m14; have y15 := (cellB B1 _).trans m15; have y16 := (cellB B1 _).trans m16; have y17 := (cellB B1 _).trans m17
             have z0 := (cellB B2 _).trans n0; have z1 := (cellB B2 _).trans n1; have z2 := (cellB B2 _).trans n2; have z3 := (cellB B2 _).trans n3; have z4 := (cellB B2 _).trans n4; have z5 := (cellB B2 _).trans n5; have z6 := (cellB B2 _).trans n6; have z7 := (cellB B2 _).trans n7; have z8 := (cellB B2 _).trans n8; have z9 := (cellB B2 _).trans n9; have z10 := (cellB B2 _).trans n10; have z11 := (cellB B2 _).trans n11; have z12 := (cellB B2 _).trans n12; have z13 := (cellB B2 _).trans n13; have z14 := (cellB B2 _).trans n14; have z15 := (cellB B2 _).trans n15; have z16 := (cellB B2 _).trans n16; have z17 := (cellB B2 _).trans n17
             clear B1 B2
             go_simp
             first
               | done
               | (go_at_call_of 14 (Value.slice b1 nb t1); exact Calls.below_of hw' (cS.out w' hw'))
               | rfl
           · go_simp
             rfl))
      refine wpQuiet_nil ?_
      intro w' hw'
      go_wp2_with fail
      have hlt := HLT.out
      go_roundw
      case rel => exact ⟨i + 1, by go_num, by omega, hide (hJ.out.trans (hw'.mono hJ.out.size))⟩
      case measure => simp [intOf]; omega
    · obtain rfl : i = l.length := by omega
      have hif : decide ((l.length : Int) < (l.length : Int)) = false := by simp
      clear hil hlt
      go_wp2_with fail
      go_ret
      exact ⟨rfl, hJ.out⟩
end Go.Proofs.YtnepogddjinpoaaGreatDoor

namespace Go.Proofs.YtnepogddjinpoaaGreatDoor
open Go.ChangeShapes Go.WideShapes Go.ChangeAt Go.RowKit Go.Joins Go.Deep
set_option linter.unusedVariables false
set_option linter.unusedSimpArgs false

set_option maxRecDepth 100000 in
theorem tabs_len {W : World} (h : W.ShapedOpen Tryz.prog) : LenO W := by
  have h0 : ((begin Tryz.prog (fun _ _ => 0) default).world.heap[0]?).bind Obj.row? = some (#[.int .i64 0], 3) := by kernel_rfl
  have hg : 0 < Tryz.prog.globals.size := of_decide_eq_true (by kernel_rfl)
  obtain ⟨m, hm⟩ := Go.Proofs.cell_of_shapedOpen_int h hg h0 rfl (by kernel_rfl) (by kernel_rfl) Tryz.underlying3
  refine ⟨m, hm, ?_⟩
  obtain ⟨cs, hh, _⟩ := h.1 _ _ _ hg h0
  exact (Array.getElem?_eq_some_iff.1 hh).1
/-- How much a unit holds. -/
def massU (n : Nat) (x : UnitD n) : Nat := 1 + sumBy (massN n) x.body
section
variable {H : Type} {enc : TypeId × Value → H}
set_option maxRecDepth 100000 in
/-- A node that came in, its numbers in range. -/
theorem open_nodeN {w : World} : ∀ (fuel m : Nat), fuel ≤ m → ∀ (cs : List Value) (x : DataW H × List MemPlace), DataW.trod enc Tryz.prog w 0 (fun _ => true) true fuel 61 cs = some x →
    ∃ d : NT m, WithP (NodeR m) (numN m) anyB w cs d ∧ massN m d ≤ Rows.uptoBulk x.1 := by
  have hC : Tryz.prog.cellsOf 61 = 9 := by kernel_rfl
  have c1 : Tryz.prog.cellsOf 3 = 1 := by kernel_rfl
  have c2 : Tryz.prog.cellsOf 9 = 1 := by kernel_rfl
  have c3 : Tryz.prog.cellsOf 22 = 1 := by kernel_rfl
  have c4 : Tryz.prog.cellsOf 41 = 1 := by kernel_rfl
  intro fuel
  induction fuel using Nat.strongRecOn with
  | _ fuel ih =>
    intro m hm cs x h
    obtain ⟨xs, n, hfu, hx, hcl, hlen, hg⟩ := DataW.trod_struct Tryz.underlying61 h
    obtain ⟨m, rfl⟩ : ∃ m', m = m' + 1 := ⟨m - 1, by omega⟩
    rw [hC] at hcl
    match cs, hcl, xs, hlen with
    | [v0, v1, v2, v3, v4, v5, v6, v7, v8], _, [y0, y1, y2, y3, y4, y5, y6, y7, y8], _ =>
      have g0 := hg 0 _ rfl
      have g1 := hg 1 _ rfl
      have g2 := hg 2 _ rfl
      have g3 := hg 3 _ rfl
      have g4 := hg 4 _ rfl
      have g5 := hg 5 _ rfl
      have g6 := hg 6 _ rfl
      have g7 := hg 7 _ rfl
      have g8 := hg 8 _ rfl
      simp [c1, c2, c3, c4] at g0 g1 g2 g3 g4 g5 g6 g7 g8
      obtain ⟨k, e0, d0, _⟩ := DataW.trod_int Tryz.underlying3 g0
      obtain ⟨s, e1, d1, _⟩ := DataW.trod_string Tryz.underlying9 g1
      obtain ⟨nm, e2, d2, _⟩ := DataW.trod_string Tryz.underlying9 g2
      obtain ⟨a3, c3', pipe, e3, hP, hP1⟩ := open_list (size := 2) Tryz.underlying22 (by kernel_rfl) (by decide) (WithP CallR numC) massC (fun n2 _ cs x h => open_callN cs x h) g3
      obtain ⟨a4, c4', body, e4, hB, hB1⟩ := open_list (size := 9) Tryz.underlying41 hC (by decide) (WithP (NodeR m) (numN m)) (massN m) (fun n2 h2 cs x h => ih n2 (by omega) m (by omega) cs x h) g4
      obtain ⟨a5, c5', els, e5, hE, hE1⟩ := open_list (size := 9) Tryz.underlying41 hC (by decide) (WithP (NodeR m) (numN m)) (massN m) (fun n2 h2 cs x h => ih n2 (by omega) m (by omega) cs x h) g5
      obtain ⟨pos, e6, d6, _⟩ := DataW.trod_int Tryz.underlying3 g6
      obtain ⟨esc, e7, d7, _⟩ := DataW.trod_int Tryz.underlying3 g7
      obtain ⟨unit, e8, d8, _⟩ := DataW.trod_int Tryz.underlying3 g8
      simp at e0 e1 e2 e3 e4 e5 e6 e7 e8
      subst e0; subst e1; subst e2; subst e3; subst e4; subst e5; subst e6; subst e7; subst e8
      have hb : Rows.uptoBulk x.1 = Rows.uptoBulk y0.1 + (Rows.uptoBulk y1.1 + (Rows.uptoBulk y2.1 + (Rows.uptoBulk y3.1 + (Rows.uptoBulk y4.1 + (Rows.uptoBulk y5.1 + (Rows.uptoBulk y6.1 + (Rows.uptoBulk y7.1 + (Rows.uptoBulk y8.1 + 0)))))))) + 1 := by rw [hx]; rfl
      have h1 : s.data.toList.length + 1 ≤ Rows.uptoBulk y1.1 := by rw [d1]; simp [Rows.uptoBulk]
      have h2 : nm.data.toList.length + 1 ≤ Rows.uptoBulk y2.1 := by rw [d2]; simp [Rows.uptoBulk]
      obtain ⟨hP, hPn⟩ := hP.both
      obtain ⟨hB, hBn⟩ := hB.both
      obtain ⟨hE, hEn⟩ := hE.both
      refine ⟨(⟨k, s.data.toList, nm.data.toList, pipe, body, els, pos, esc, unit⟩ : NN (NT m)), ⟨⟨a3, c3', a4, c4', a5, c5', by simp only [str_back], hP, hB, hE⟩, hPn, hBn, hEn⟩, ?_⟩
      rw [massN_succ]
      simp only
      omega
set_option maxRecDepth 100000 in
/-- A state that came in. -/
theorem open_stateE {w : World} {fuel : Nat} (cs : List Value) (x : DataW H × List MemPlace) (h : DataW.trod enc Tryz.prog w 0 (fun _ => true) true fuel 57 cs = some x) : ∃ s : StZ, cs = [.int .i64 s.k, .string s.el, .string s.at_, .int .u8 s.d, .string s.pe, .string s.re, .int .i64 s.pa, .string s.wo] := by
  have hC : Tryz.prog.cellsOf 57 = 8 := by kernel_rfl
  have c1 : Tryz.prog.cellsOf 3 = 1 := by kernel_rfl
  have c2 : Tryz.prog.cellsOf 9 = 1 := by kernel_rfl
  have c3 : Tryz.prog.cellsOf 5 = 1 := by kernel_rfl
  obtain ⟨xs, n, hfu, hx, hcl, hlen, hg⟩ := DataW.trod_struct Tryz.underlying57 h
  rw [hC] at hcl
  match cs, hcl, xs, hlen with
  | [v0, v1, v2, v3, v4, v5, v6, v7], _, [y0, y1, y2, y3, y4, y5, y6, y7], _ =>
    have g0 := hg 0 _ rfl
    have g1 := hg 1 _ rfl
    have g2 := hg 2 _ rfl
    have g3 := hg 3 _ rfl
    have g4 := hg 4 _ rfl
    have g5 := hg 5 _ rfl
    have g6 := hg 6 _ rfl
    have g7 := hg 7 _ rfl
    simp [c1, c2, c3] at g0 g1 g2 g3 g4 g5 g6 g7
    obtain ⟨k, e0, _, _⟩ := DataW.trod_int Tryz.underlying3 g0
    obtain ⟨el, e1, _, _⟩ := DataW.trod_string Tryz.underlying9 g1
    obtain ⟨at_, e2, _, _⟩ := DataW.trod_string Tryz.underlying9 g2
    obtain ⟨d, e3, _, _⟩ := DataW.trod_int Tryz.underlying5 g3
    obtain ⟨pe, e4, _, _⟩ := DataW.trod_string Tryz.underlying9 g4
    obtain ⟨re, e5, _, _⟩ := DataW.trod_string Tryz.underlying9 g5
    obtain ⟨pa, e6, _, _⟩ := DataW.trod_int Tryz.underlying3 g6
    obtain ⟨wo, e7, _, _⟩ := DataW.trod_string Tryz.underlying9 g7
    simp at e0 e1 e2 e3 e4 e5 e6 e7
    subst e0; subst e1; subst e2; subst e3; subst e4; subst e5; subst e6; subst e7
    exact ⟨⟨k, el, at_, d, pe, re, pa, wo⟩, rfl⟩
set_option maxRecDepth 100000 in
/-- A unit that came in. -/
theorem open_unitE {w : World} (fuel m : Nat) (hm : fuel ≤ m) (cs : List Value) (x : DataW H × List MemPlace) (h : DataW.trod enc Tryz.prog w 0 (fun _ => true) true fuel 59 cs = some x) :
    ∃ d : UnitD m, WithP (UnitR m) (fun d => ∀ y ∈ d.body, numN m y) anyB w cs d ∧ massU m d ≤ Rows.uptoBulk x.1 := by
  have hC : Tryz.prog.cellsOf 59 = 18 := by kernel_rfl
  have c1 : Tryz.prog.cellsOf 9 = 1 := by kernel_rfl
  have c2 : Tryz.prog.cellsOf 57 = 8 := by kernel_rfl
  have c3 : Tryz.prog.cellsOf 41 = 1 := by kernel_rfl
  have c9 : Tryz.prog.cellsOf 61 = 9 := by kernel_rfl
  obtain ⟨xs, n, hfu, hx, hcl, hlen, hg⟩ := DataW.trod_struct Tryz.underlying59 h
  rw [hC] at hcl
  match cs, hcl, xs, hlen with
  | [v0, v1, v2, v3, v4, v5, v6, v7, v8, v9, v10, v11, v12, v13, v14, v15, v16, v17], _, [y0, y1, y2, y3], _ =>
    have g0 := hg 0 _ rfl
    have g1 := hg 1 _ rfl
    have g2 := hg 2 _ rfl
    have g3 := hg 3 _ rfl
    simp [c1, c2, c3] at g0 g1 g2 g3
    obtain ⟨nm, e0, d0, _⟩ := DataW.trod_string Tryz.underlying9 g0
    obtain ⟨f, ef⟩ := open_stateE _ _ g1
    obtain ⟨t, et⟩ := open_stateE _ _ g2
    obtain ⟨a, c, body, e3, hB, hB1⟩ := open_list (size := 9) Tryz.underlying41 c9 (by decide) (WithP (NodeR m) (numN m)) (massN m) (fun n2 h2 cs x h => open_nodeN n2 m (by omega) cs x h) g3
    obtain ⟨hB, hBn⟩ := hB.both
    simp at e0 e3 ef et
    obtain ⟨rfl, rfl, rfl, rfl, rfl, rfl, rfl, rfl⟩ := ef
    obtain ⟨rfl, rfl, rfl, rfl, rfl, rfl, rfl, rfl⟩ := et
    subst e0; subst e3
    have hb : Rows.uptoBulk x.1 = Rows.uptoBulk y0.1 + (Rows.uptoBulk y1.1 + (Rows.uptoBulk y2.1 + (Rows.uptoBulk y3.1 + 0))) + 1 := by rw [hx]; rfl
    refine ⟨⟨nm, f, t, body⟩, ⟨⟨a, c, rfl, hB⟩, hBn⟩, ?_⟩
    unfold massU
    simp only
    omega
end
set_option maxRecDepth 100000 in
/-- Units that came in. -/
theorem open_units {H : Type} {enc : TypeId × Value → H} {w : World} {r : Reach} {b0 : Nat} {v : Value} {d : DataW H} {p : List MemPlace} (hv : Value.okWide Tryz.prog w r b0 47 v) (h : DataW.Trod enc Tryz.prog w 0 (fun _ => true) true 47 v d p) :
    ∃ (n : Nat) (a : Option Addr) (c : Nat) (l : List (UnitD n)), v = .slice a l.length c ∧ AtR (UnitR n) 18 anyB w a l ∧ sumBy (massU n) l ≤ Rows.uptoBulk d ∧ ∀ x ∈ l, ∀ y ∈ x.body, numN n y := by
  obtain ⟨a0, len, cap, rfl⟩ := okWide_slice Tryz.underlying47 hv
  obtain ⟨fuel, hf⟩ := h
  have hf' : DataW.trod enc Tryz.prog w 0 (fun _ => true) true fuel 47 [.slice a0 len cap] = some (d, p) := hf
  obtain ⟨a, c, l, he, h1, h2⟩ := open_list (size := 18) Tryz.underlying47 (by kernel_rfl) (by decide) (WithP (UnitR fuel) (fun d => ∀ y ∈ d.body, numN fuel y)) (massU fuel) (fun n2 h2 cs x h => open_unitE n2 fuel (by omega) cs x h) hf'
  simp at he
  obtain ⟨rfl, rfl, rfl⟩ := he
  have h2 : sumBy (massU fuel) l + 1 ≤ Rows.uptoBulk d := h2
  obtain ⟨h3, h4⟩ := h1.both
  exact ⟨fuel, a0, cap, l, rfl, h3, by omega, h4⟩
set_option maxRecDepth 100000 in
/-- Units behind the call. -/
theorem again_units {H : Type} {enc : TypeId × Value → H} {W W' : World} {v : Value} {d : DataW H} {ps : List MemPlace} (h : DataW.Trod enc Tryz.prog W 0 (fun _ => true) true 47 v d ps) (hb : Below W.heap.size W W') (hlt : ∀ x ∈ ps, x.block < W.heap.size) (sp : Nat → Bool) (hsp : ∀ x ∈ ps, sp x.block = true) :
    DataW.Trod enc Tryz.prog W' 0 sp true 47 v d ps :=
  WideElems.Trod_stays laidOutV (by kernel_rfl) (of_decide_eq_true (by kernel_rfl)) h (fun x hx => hb.same (hlt x hx)) hsp
end Go.Proofs.YtnepogddjinpoaaGreatDoor
