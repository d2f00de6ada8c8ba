/-
  fold.own, fold.all: nodes in memory of their own.
-/
import Derived.Test.YtnepogddjinpoaaGreatDoorOwnArg
import Derived.LoopN
import Derived.Deep.Cut
import Derived.Deep.CutRange
import Derived.Deep.DeepCutAuto
import Derived.Deep.RegionWith
namespace Go.Proofs.YtnepogddjinpoaaGreatDoor
open Go.RowKit
set_option linter.unusedVariables false
set_option linter.unusedSimpArgs false

theorem info_callO : (Tryz.prog.info? 33).map (fun i => (i.zero, i.size, i.bytes)) = some (some (.agg #[.string ⟨#[]⟩, .slice none 0 0]), 2, 40) := by kernel_rfl
theorem info_nodeO : (Tryz.prog.info? 61).map (fun i => (i.zero, i.size, i.bytes)) = some (some (.agg #[.int .i64 0, .string ⟨#[]⟩, .string ⟨#[]⟩, .slice none 0 0, .slice none 0 0, .slice none 0 0, .int .i64 0, .int .i64 0, .int .i64 0]), 9, 136) := by kernel_rfl
abbrev zero9 : Array Value := #[.int .i64 0, .string ⟨#[]⟩, .string ⟨#[]⟩, .slice none 0 0, .slice none 0 0, .slice none 0 0, .int .i64 0, .int .i64 0, .int .i64 0]
/-- A list of nodes in memory of its own. -/
def AllOwn (n : Nat) (w : World) (l : List (NT n)) (e : Ending) (w' : World) : Prop := ∃ A c es, e = .returned (.slice A l.length c) ∧ RowR (NodeR n) 9 w.heap.size 61 w' (.slice A l.length c) es l ∧ Below w.heap.size w w'
def NodeOwn (n : Nat) (w : World) (x : NT n) (e : Ending) (w' : World) : Prop := ∃ k s nm a1 n1 c1 a2 n2 c2 a3 n3 c3 pos esc unit, e = .returned (.agg ⟨nodeCells k s nm a1 n1 c1 a2 n2 c2 a3 n3 c3 pos esc unit⟩) ∧ NodeR n (freshB w.heap.size) w' (nodeCells k s nm a1 n1 c1 a2 n2 c2 a3 n3 c3 pos esc unit) x ∧ Below w.heap.size w w'
/-- Whatever is let by stays let by where only new memory is made. -/
def Lasts (U : World → Nat → Prop) : Prop := ∀ w w' b, Below w.heap.size w w' → b < w.heap.size → U w b → U w' b
theorem Lasts.stays {U : World → Nat → Prop} (hU : Lasts U) {w w' : World} (hb : Below w.heap.size w w') : Stays U U w w' := Stays.of_below hb fun b h => hU w w' b hb h
/-- fold.own's boxes, and what is built. -/
structure OwnI (w wr : World) (cells : Array Value) (v : Value) (es : List (List Value)) (xs : List CallD) : Prop where
  bel : Chg [] w wr
  b1 : Blk wr w.heap.size 61 cells
  b2 : Blk wr (w.heap.size + 1) 61 zero9
  row : RowR CallR 2 (w.heap.size + 2) 33 wr v es xs
theorem OwnI.below {w wr w' : World} {cells : Array Value} {v : Value} {es : List (List Value)} {xs : List CallD} (h : OwnI w wr cells v es xs) (hb : Below wr.heap.size wr w') : OwnI w w' cells v es xs :=
  ⟨h.bel.below hb, h.b1.below hb h.b1.lt, h.b2.below hb h.b2.lt, h.row.below CallR.steady hb⟩
theorem OwnI.snoc {w wr wP wA w4 : World} {cells : Array Value} {v : Value} {es : List (List Value)} {xs : List CallD} {c : List Value} {y : CallD} {M g cap : Nat} (h : OwnI w wr cells v es xs) (hP : Below wr.heap.size wr wP) (hc : c.length = 2) (hV : CallR (freshB M) wP c y) (hM : wr.heap.size ≤ M) (hA : Below wP.heap.size wP wA) (hg : wA.grownBy w4 v.ownBlock)
    (hown : w4.ownsRow (w.heap.size + 2) 33 2 (.slice (some ⟨g, 0, none⟩) (es.length + 1) cap) (es.length + 1) (es.flatten ++ c)) (hat : v.ownBlock = some g ∨ g = wA.heap.size) :
    OwnI w w4 cells (.slice (some ⟨g, 0, none⟩) (es.length + 1) cap) (es ++ [c]) (xs ++ [y]) := by
  have h' := h.below hP
  have hPA := hP.trans (hA.mono hP.size)
  have l2 := h.b2.lt
  have hne : ∀ b, b < w.heap.size + 2 → some b ≠ v.ownBlock := fun b hb e => by have := (h.row.own.lt b e.symm).1; omega
  exact ⟨(h'.bel.below hA).grown hg (fun k hk => .inr (by have := (h.row.own.lt k hk).1; omega)), (h'.b1.below hA h'.b1.lt).grown hg (hne _ (by omega)), (h'.b2.below hA h'.b2.lt).grown hg (hne _ (by omega)),
    h'.row.snoc CallR.steady hc hV (fun k hk => Nat.lt_of_lt_of_le (h.row.own.lt k hk).2 hM) (by omega) hA hg hown hat⟩
theorem name_postO {P : Program} {f : Func} {R : Ending → World → Prop} {x : Exit} {a : Act} {w : World} (h : ∀ W, w = W → bodyPost P f R x a W) : bodyPost P f R x a w := h w rfl
/-- What lay below a world. -/
def lowB (U : World → Nat → Prop) (wo : World) : World → Nat → Prop := fun _ b => U wo b ∧ b < wo.heap.size
theorem stays_low {U : World → Nat → Prop} {wo W W' : World} (h1 : Below wo.heap.size wo W) (h2 : Below wo.heap.size wo W') (hs : W.heap.size ≤ W'.heap.size) : Stays (lowB U wo) (lowB U wo) W W' :=
  ⟨hs, fun b _ hb => ⟨(h2.block b hb.2).trans (h1.block b hb.2).symm, hb⟩⟩
theorem AtR.low {α : Type} {R : Rel α} (hR : Steady R) {size : Nat} {U : World → Nat → Prop} {w : World} {a : Option Addr} {l : List α} (h : AtR R size U w a l) : AtR R size (lowB U w) w a l := h.on hR (stays_weaken fun b h1 h2 => ⟨h2, h1⟩)
/-- How much nodes hold, but for their texts. -/
def bareN : (n : Nat) → NT n → Nat
  | 0, _ => 0
  | n + 1, x => 1 + (NN.nm x).length + sumBy massC (NN.pipe x) + sumBy (bareN n) (NN.body x) + sumBy (bareN n) (NN.els x)
theorem bareN_succ (n : Nat) (x : NN (NT n)) : bareN (n + 1) x = 1 + x.nm.length + sumBy massC x.pipe + sumBy (bareN n) x.body + sumBy (bareN n) x.els := rfl
theorem bare_le_mass : ∀ (n : Nat) (x : NT n), bareN n x ≤ massN n x := by
  intro n
  induction n with
  | zero => intro x; exact x.elim
  | succ n ih =>
    intro x
    have e1 := bareN_succ n x
    have e2 := massN_succ n x
    have h1 := sumBy_le (f := bareN n) (g := massN n) (NN.body x) (fun y _ => ih y)
    have h2 := sumBy_le (f := bareN n) (g := massN n) (NN.els x) (fun y _ => ih y)
    rw [e1, e2]
    omega
theorem bare_le_sum {n : Nat} (l : List (NT n)) : sumBy (bareN n) l ≤ sumBy (massN n) l := sumBy_le (f := bareN n) (g := massN n) l (fun y _ => bare_le_mass n y)
theorem bareN_pos {n : Nat} (x : NT (n + 1)) : 1 ≤ bareN (n + 1) x := by
  have e1 := bareN_succ n x
  rw [e1]; omega
set_option maxHeartbeats 4000000 in
set_option maxRecDepth 100000 in
theorem own_any (n : Nat) (hall : ∀ (U : World → Nat → Prop) (hU : Lasts U) (a : Option Addr) (c : Nat) (l : List (NT n)) (w : World), AtR (NodeR n) 9 U w a l → sumBy (bareN n) l ≤ 1048576 → Calls Tryz.prog 27 #[.slice a l.length c] w (AllOwn n w l))
    (U : World → Nat → Prop) (hU : Lasts U) (k pos esc unit : Int) (s nm : List UInt8) (a1 a2 a3 : Option Addr) (c1 c2 c3 : Nat) (pipe : List CallD) (body els : List (NT n)) (w : World) (h1 : AtR CallR 2 U w a1 pipe) (h2 : AtR (NodeR n) 9 U w a2 body) (h3 : AtR (NodeR n) 9 U w a3 els)
    (hm1 : sumBy massC pipe ≤ 1048576) (hm2 : sumBy (bareN n) body ≤ 1048576) (hm3 : sumBy (bareN n) els ≤ 1048576) :
    Calls Tryz.prog 48 #[.agg ⟨nodeCells k ⟨s.toArray⟩ ⟨nm.toArray⟩ a1 pipe.length c1 a2 body.length c2 a3 els.length c3 pos esc unit⟩] w (NodeOwn (n + 1) w (⟨k, s, nm, pipe, body, els, pos, esc, unit⟩ : NN (NT n))) := by
  obtain ⟨i0, hi, hz0, hz1, hz2⟩ := info_parts info_callO
  obtain ⟨x, hx⟩ : ∃ x : ByteArray, (⟨s.toArray⟩ : ByteArray) = x := ⟨_, rfl⟩
  obtain ⟨y, hy⟩ : ∃ y : ByteArray, (⟨nm.toArray⟩ : ByteArray) = y := ⟨_, rfl⟩
  rw [hx, hy]
  have HX := hide hx; have HY := hide hy
  clear hx hy
  have hpl : pipe.length ≤ 1048576 := Nat.le_trans (sumBy_len massC massC_pos pipe) hm1
  have H1 := hide h1; have HM1 := hide hm1
  clear hm1
  go_enter Tryz.func48, Tryz.ntmps48
  go_wp2_with (at_make; refine wpList_make_own _ rfl _ _ 22 rfl (w.heap.size + 2) 33 i0 (.agg #[.string ⟨#[]⟩, .slice none 0 0]) 2 Tryz.underlying22 hi hz0 hz1 .i64 .i64 _ pipe.length rfl rfl rfl (by rw [hz2]; omega) (by unfold maxLen; omega) (by simp) ?_; intro w2 hown2 hgrow2; have K1 : Blk w2 w.heap.size 61 ⟨nodeCells k x y a1 pipe.length c1 a2 body.length c2 a3 els.length c3 pos esc unit⟩ := Blk.grown (by (repeat' (first | with_reducible exact Blk.new_ (by first | rfl | (simp; done) | (simp; omega)) | with_reducible refine Blk.alloc_ ?_ | with_reducible refine Blk.drew ?_ | with_reducible refine Blk.drewN ?_ _ | with_reducible refine Blk.far_ ?_ (by first | (simp; done) | (simp; omega) | omega) | with_reducible apply Blk.set_eq | rfl))) hgrow2 (by simp); have K2 : Blk w2 (w.heap.size + 1) 61 zero9 := Blk.grown (by (repeat' (first | with_reducible exact Blk.new_ (by first | rfl | (simp; done) | (simp; omega)) | with_reducible refine Blk.alloc_ ?_ | with_reducible refine Blk.drew ?_ | with_reducible refine Blk.drewN ?_ _ | with_reducible refine Blk.far_ ?_ (by first | (simp; done) | (simp; omega) | omega) | with_reducible apply Blk.set_eq | rfl))) hgrow2 (by simp); have q3 := K1.cell 3; simp at q3)
  have hI : Hid (OwnI w w2 ⟨nodeCells k x y a1 pipe.length c1 a2 body.length c2 a3 els.length c3 pos esc unit⟩ (.slice (some ⟨w.heap.size + 2, 0, none⟩) 0 pipe.length) [] []) :=
    ⟨Chg.grown (by (repeat' (first | with_reducible exact Chg.refl _ _ | with_reducible refine Chg.alloc ?_ _ | with_reducible refine Chg.drew ?_ | with_reducible refine Chg.drewN ?_ _ | with_reducible refine Chg.set_ ?_ _ _ (by first | (simp; done) | (simp; omega) | omega)))) hgrow2 (by intro k e; cases e), K1, K2, RowR.made (by simpa using hown2)⟩
  clear K1 K2 hown2 hgrow2 q3
  go_loopw [3, 14] (fun ov iv wr => ∃ (j : Nat) (A0 : Option Addr) (cp : Nat) (es : List (List Value)) (xs : List CallD), iv = .int .i64 (j : Int) ∧ ov = .slice A0 j cp ∧ j ≤ pipe.length ∧ xs.length = j ∧ Hid (xs = pipe.take j) ∧ Hid (OwnI w wr ⟨nodeCells k x y a1 pipe.length c1 a2 body.length c2 a3 els.length c3 pos esc unit⟩ (.slice A0 xs.length cp) es xs)) (fun _ iv _ => pipe.length - (intOf iv).toNat)
  case atStart => exact ⟨0, _, _, [], [], rfl, rfl, Nat.zero_le _, rfl, rfl, hI⟩
  case round =>
    obtain ⟨j, A0, cp, es, xs, rfl, rfl, hjl, hxl, hxs, hJ⟩ := hrel
    obtain ⟨wo, hwo⟩ : ∃ x, x = wr := ⟨_, rfl⟩
    subst hwo
    by_cases hlt : j < pipe.length
    · obtain ⟨z, hz⟩ : ∃ z, pipe[j]? = some z := ⟨_, List.getElem?_eq_getElem hlt⟩
      obtain ⟨g, o, vs, rfl, hg, _, _, hcell, aN, aC, rfl, hArg⟩ := (H1.out.on CallR.steady (hU.stays hJ.out.bel.bel)) j z hz
      have f0 := hcell 0 _ rfl; have f1 := hcell 1 _ rfl
      simp only [Nat.add_zero] at f0
      have hji : (j : Int) < (pipe.length : Int) := by omega
      have HArg := hide (hArg.low ArgR.steady)
      have hzm : Hid (sumBy massA z.args ≤ 1048576) := by
        have e1 := sumBy_mem massC pipe z (List.mem_of_getElem? hz)
        have e2 := HM1.out
        unfold massC at e1
        show _ ≤ _
        unfold massC at e2
        omega
      have hnx := hide (show xs ++ [z] = pipe.take (j + 1) by rw [hxs.out, List.take_add_one, hz]; rfl)
      clear hcell hArg hz
      go_wp2_with fail
      refine name_world fun W hW => ?_
      have CW : Below wo.heap.size wo W := Chg.bel (by subst hW; (repeat' (first | with_reducible exact Chg.refl _ _ | with_reducible refine Chg.alloc ?_ _ | with_reducible refine Chg.drew ?_ | with_reducible refine Chg.drewN ?_ _ | with_reducible refine Chg.set_ ?_ _ _ (by first | (simp; done) | (simp; omega) | omega))))
      have KC : Blk W wo.heap.size 33 #[.string ⟨z.nm.toArray⟩, .slice aN z.args.length aC] := by subst hW; (repeat' (first | with_reducible exact Blk.new_ (by first | rfl | (simp; done) | (simp; omega)) | with_reducible refine Blk.alloc_ ?_ | with_reducible refine Blk.drew ?_ | with_reducible refine Blk.drewN ?_ _ | with_reducible refine Blk.far_ ?_ (by first | (simp; done) | (simp; omega) | omega) | with_reducible apply Blk.set_eq | rfl))
      clear hW
      refine (clone_arg (lowB U wo) aN aC z.args W (HArg.out.on ArgR.steady (stays_low (Below.refl _ _) CW CW.size)) (by have := sumBy_len massA massA_pos z.args; have := hzm.out; omega)).mono ?_
      rintro e w3 ⟨v1, es1, rfl, hown1, hl1, hs1, hR1, hb3⟩
      obtain ⟨A1, cap1, rfl, hJ1⟩ := ArgJ.start hown1 hl1 hs1
      have KC3 := KC.below hb3 KC.lt
      have C13 := below_step CW hb3
      have HR1 := hide hR1
      have sW := CW.size
      have HCW := hide CW
      have sW3 := hb3.size
      have l1 := KC.lt
      have g1 := KC3.cell 1
      have y1 := KC3.frozen 1
      simp at g1
      have lC := KC3.lt
      have HK := hide (And.intro KC3 (And.intro C13 hJ1))
      clear KC KC3 C13 hb3 hown1 hl1 hs1 hR1 hJ1 f0 f1 CW
      go_wp2_with fail
      have hzl : z.args.length ≤ 1048576 := Nat.le_trans (sumBy_len massA massA_pos z.args) hzm.out
      go_loopw [25] (fun iv wi => ∃ i : Nat, iv = .int .i64 (i : Int) ∧ i ≤ z.args.length ∧ w3.heap.size ≤ wi.heap.size ∧ Hid (Blk wi wo.heap.size 33 #[.string ⟨z.nm.toArray⟩, .slice A1 z.args.length cap1] ∧ Below wo.heap.size wo wi ∧ ArgJ W.heap.size wi A1 cap1 es1 z.args i)) (fun iv _ => z.args.length - (intOf iv).toNat)
      case atStart => exact ⟨0, rfl, Nat.zero_le _, by simp, by (repeat' (first | with_reducible exact HK.out.1 | with_reducible exact Blk.new_ (by first | rfl | (simp; done) | (simp; omega)) | with_reducible refine Blk.alloc_ ?_ | with_reducible refine Blk.drew ?_ | with_reducible refine Blk.drewN ?_ _ | with_reducible refine Blk.far_ ?_ (by first | (simp; done) | (simp; omega) | omega) | with_reducible apply Blk.set_eq | rfl)), HK.out.2.1.setCell (p := ⟨wo.heap.size, 1, none⟩) (Nat.le_refl _) _, HK.out.2.2.chg (S := [wo.heap.size]) (by (repeat' (first | with_reducible exact Chg.refl _ _ | with_reducible refine Chg.alloc ?_ _ | with_reducible refine Chg.drew ?_ | with_reducible refine Chg.drewN ?_ _ | with_reducible refine Chg.set_ ?_ _ _ (by first | (simp; done) | (simp; omega) | omega)))) (by intro x hx; simp at hx; omega)⟩
      case round =>
        obtain ⟨i, rfl, hin, hz3, hL⟩ := hrel
        clear g1 y1
        by_cases hlt2 : i < z.args.length
        · obtain ⟨q, hq⟩ : ∃ q, z.args[i]? = some q := ⟨_, List.getElem?_eq_getElem hlt2⟩
          have hij : (i : Int) < (z.args.length : Int) := by omega
          obtain ⟨g1, es2, hA1, hI2⟩ : ∃ g es, A1 = some ⟨g, 0, none⟩ ∧ ArgI W.heap.size wr g cap1 es1 z.args i es := by
            rcases hL.out.2.2 with ⟨e, _⟩ | h
            · rw [e] at hlt2; simp at hlt2
            · exact h
          subst hA1
          have hil1 : i < es1.length := by
            have h1 := hI2.len
            have h := hI2.rest i (Nat.le_refl _)
            have h2 : i < es2.length := by omega
            rw [List.getElem?_eq_getElem h2] at h
            exact (List.getElem?_eq_some_iff.1 h.symm).1
          obtain ⟨c0, hc0⟩ : ∃ c, es1[i]? = some c := ⟨_, List.getElem?_eq_getElem hil1⟩
          obtain ⟨aP, cP, rfl, hP⟩ := HR1.out i c0 q hc0 hq
          have hei : es2[i]? = some (argCells q.k ⟨q.nm.toArray⟩ aP q.path.length cP q.i ⟨q.s.toArray⟩) := by rw [hI2.rest i (Nat.le_refl _)]; exact hc0
          have r2 : wr.cell? ⟨g1, i * 5 + 2, none⟩ = some (.slice aP q.path.length cP) := by
            have := hI2.own.cells (g := g1) rfl (i * 5 + 2) _ ((flat_get hI2.sized i _ 2 hei (by decide)).trans rfl)
            rw [zaddV] at this
            exact this
          have y2 := hI2.own.frozenAt (i * 5 + 2)
          have lg1 := hI2.own.lt g1 rfl
          have KW := hL.out.1
          have g0 := KW.cell 1
          simp at g0
          have lW := KW.lt
          have hqb : q.path.length * 16 ≤ 140737488351232 := by
            have e1 := sumBy_mem massA z.args q (List.mem_of_getElem? hq)
            have e2 := hzm.out
            have e3 := sumBy_len (fun p : List UInt8 => p.length + 1) (fun p => by omega) q.path
            unfold massA at e1 e2
            omega
          have hWr := hL.out.2.1
          have cS := hide (fun (W' : World) (h : Below wr.heap.size wr W') => clone_str (lowB U wo) aP cP q.path W' (hP.on StrR.steady (stays_low HCW.out (below_step hWr h) (Nat.le_trans (Nat.le_trans sW3 hz3) h.size))) hqb)
          have HI2 := hide hI2
          have HKW := hide (And.intro KW hWr)
          have hel : es2.length = z.args.length := hI2.len
          have HEL := hide hel
          clear hI2 KW hWr hL hP hel hei
          go_wp2_with fail
          go_region_with (go_at_call 61; refine (cS.out _ (Chg.bel (by (repeat' (first | with_reducible exact Chg.refl _ _ | with_reducible refine Chg.alloc ?_ _ | with_reducible refine Chg.drew ?_ | with_reducible refine Chg.drewN ?_ _ | with_reducible refine Chg.set_ ?_ _ _ (by first | (simp; done) | (simp; omega) | omega)))))).mono ?_; rintro e wP ⟨vp, ps, rfl, hownP, hlP, hsP, hRP, hbP⟩; have HBP := hide (below_step (a := wr) (Chg.bel (by (repeat' (first | with_reducible exact Chg.refl _ _ | with_reducible refine Chg.alloc ?_ _ | with_reducible refine Chg.drew ?_ | with_reducible refine Chg.drewN ?_ _ | with_reducible refine Chg.set_ ?_ _ _ (by first | (simp; done) | (simp; omega) | omega))))) hbP); obtain ⟨A2, c2, rfl⟩ := own_sliceV hownP; have KP := HKW.out.1.below HBP.out HKW.out.1.lt; have g0' := KP.cell 1; simp at g0'; have lP := KP.lt; have r2' := (HBP.out.cell (p := ⟨g1, i * 5 + 2, none⟩) lg1.2).trans r2; have y2' := (HBP.out.frozen (p := ⟨g1, i * 5 + 2, none⟩) lg1.2).trans y2; have lgP := Nat.lt_of_lt_of_le lg1.2 HBP.out.size; have HPN := hide (And.intro hownP (And.intro hlP (And.intro hsP hRP))); have HKP := hide KP; clear hownP hlP hsP hRP hbP KP)
          all_goals
            go_wp2_with fail
            have hp : RowR StrR 1 wr.heap.size 9 wP (.slice A2 ps.length c2) ps q.path := ⟨HPN.out.1, HPN.out.2.2.1, HPN.out.2.1, fun r c x h1 h2 => HPN.out.2.2.2 r c x h1 h2⟩
            have HST := hide (HI2.out.step hq hc0 HBP.out HPN.out.2.1 hp)
            have hPs := HBP.out.size
            clear hp
            go_roundw
            case rel =>
              refine ⟨i + 1, by go_num, by omega, by simp; omega, HKP.out.far (p := ⟨g1, i * 5 + 2, none⟩) (by show wo.heap.size ≠ g1; omega) _, (below_step HKW.out.2 HBP.out).setCell (p := ⟨g1, i * 5 + 2, none⟩) (by show wo.heap.size ≤ g1; omega) _, .inr ⟨g1, _, rfl, HST.out⟩⟩
            case measure => simp [intOf]; omega
        · obtain rfl : i = z.args.length := by omega
          have hif : decide ((z.args.length : Int) < (z.args.length : Int)) = false := by simp
          have HRow := hide hL.out.2.2.row
          have KW := hL.out.1
          have g0 := KW.cell 0; have g1 := KW.cell 1
          simp at g0 g1
          have lW := KW.lt
          have hel : es.length = j := by rw [hJ.out.row.len, hxl]
          have hownJ := (hJ.out.below hL.out.2.1).row.own
          rw [hel, hxl] at hownJ
          have hwz : w.heap.size + 2 ≤ wr.heap.size := by have := hJ.out.b2.lt; omega
          have HL2 := hide hL.out.2.1
          clear hL KW hel
          go_wp2_with (at_builtin; refine wpList_append_lies _ rfl _ _ 22 rfl (w.heap.size + 2) 33 i0 (.agg #[.string ⟨#[]⟩, .slice none 0 0]) 2 40 Tryz.underlying22 hi hz0 hz1 hz2 rfl (by decide) (.slice A0 j cp) j _ rfl (hownJ.alloc _) ⟨wr.heap.size, 0, none⟩ 1 1 [.string ⟨z.nm.toArray⟩, .slice A1 z.args.length cap1] rfl rfl (by intro j u hj; match j, hj with | 0, hj => (simp at hj; subst hj; simp [Addr.add]) | 1, hj => (simp at hj; subst hj; simp [Addr.add])) (by intro u hu; simp at hu; rcases hu with rfl | rfl <;> rfl) (by omega) (by unfold maxLen; omega) (by omega) (by simp; omega) _ rfl ?_)
          intro g4 cp4 w4 hown4 hgrow4 hat4 hlt4
          have hIn := hide (hJ.out.snoc (y := z) (c := callCells ⟨z.nm.toArray⟩ A1 z.args.length cap1) HL2.out rfl ⟨A1, cap1, rfl, HRow.out⟩ sW ((Below.refl wr.heap.size wr).alloc (Nat.le_refl _) (.cells #[.string ⟨z.nm.toArray⟩, .slice A1 z.args.length cap1] 33)) (by rw [hxl]; exact hgrow4) (by rw [hJ.out.row.len, hxl]; exact hown4) (by rw [hxl, World.size_alloc]; exact hat4))
          rw [show es.length = j by rw [hJ.out.row.len, hxl]] at hIn
          clear hown4 hgrow4 hat4 hownJ
          go_wp2_with fail
          go_roundw
          case rel => exact ⟨j + 1, _, _, _, _, by go_num, rfl, by omega, by simp [hxl], hnx.out, hide (by simpa [hxl] using hIn.out)⟩
          case measure => simp [intOf]; omega
    · obtain rfl : j = pipe.length := by omega
      have hif : decide ((pipe.length : Int) < (pipe.length : Int)) = false := by simp
      have hxe : xs = pipe := by rw [hxs.out, List.take_length]
      subst hxe
      clear hxl hjl hlt
      have hb0 := hJ.out.bel.bel
      have hzo : w.heap.size + 2 ≤ wo.heap.size := by have := hJ.out.b2.lt; omega
      have cB := hide (fun (W' : World) (h : Below wo.heap.size wo W') => hall U hU a2 c2 body W' (h2.on (NodeR.steady n) (hU.stays (below_step hb0 h))) hm2)
      have cE := hide (fun (W' : World) (h : Below wo.heap.size wo W') => hall U hU a3 c3 els W' (h3.on (NodeR.steady n) (hU.stays (below_step hb0 h))) hm3)
      have K := hJ.out.b1
      have p0 := K.cell 0; have p1 := K.cell 1; have p2 := K.cell 2; have p3 := K.cell 3; have p4 := K.cell 4; have p5 := K.cell 5; have p6 := K.cell 6; have p7 := K.cell 7; have p8 := K.cell 8; simp at p0 p1 p2 p3 p4 p5 p6 p7 p8
      have lK := K.lt
      clear K hb0 h1 h2 h3
      go_wp2_with fail
      go_region_with (first
        | (go_at_call_of 27 (Value.slice a2 body.length c2); refine (cB.out _ (Chg.bel (by (repeat' (first | with_reducible exact Chg.refl _ _ | with_reducible refine Chg.alloc ?_ _ | with_reducible refine Chg.drew ?_ | with_reducible refine Chg.drewN ?_ _ | with_reducible refine Chg.set_ ?_ _ _ (by first | (simp; done) | (simp; omega) | omega)))))).mono ?_; rintro e wB ⟨AB, kB, eB, rfl, hrB, hbB⟩; have HB := hide (And.intro hrB (below_step (a := wo) (Chg.bel (by (repeat' (first | with_reducible exact Chg.refl _ _ | with_reducible refine Chg.alloc ?_ _ | with_reducible refine Chg.drew ?_ | with_reducible refine Chg.drewN ?_ _ | with_reducible refine Chg.set_ ?_ _ _ (by first | (simp; done) | (simp; omega) | omega))))) hbB)); have KB := hJ.out.b1.below HB.out.2 hJ.out.b1.lt; have r0 := KB.cell 0; have r1 := KB.cell 1; have r2 := KB.cell 2; have r3 := KB.cell 3; have r4 := KB.cell 4; have r5 := KB.cell 5; have r6 := KB.cell 6; have r7 := KB.cell 7; have r8 := KB.cell 8; simp at r0 r1 r2 r3 r4 r5 r6 r7 r8; have lB := KB.lt; clear hrB hbB KB)
        | (go_at_call_of 27 (Value.slice a3 els.length c3); refine (cE.out _ HB.out.2).mono ?_; rintro e wE ⟨AE, kE, eE, rfl, hrE, hbE⟩; have HE := hide (And.intro hrE (And.intro hbE (below_step HB.out.2 hbE))); have KE := hJ.out.b1.below HE.out.2.2 hJ.out.b1.lt; have t0 := KE.cell 0; have t1 := KE.cell 1; have t2 := KE.cell 2; have t3 := KE.cell 3; have t4 := KE.cell 4; have t5 := KE.cell 5; have t6 := KE.cell 6; have t7 := KE.cell 7; have t8 := KE.cell 8; simp at t0 t1 t2 t3 t4 t5 t6 t7 t8; have z0 := KE.frozen 0; have z1 := KE.frozen 1; have z2 := KE.frozen 2; have z3 := KE.frozen 3; have z4 := KE.frozen 4; have z5 := KE.frozen 5; have z6 := KE.frozen 6; have z7 := KE.frozen 7; have z8 := KE.frozen 8; have lE := KE.lt; have RE := hJ.out.b2.below HE.out.2.2 hJ.out.b2.lt; have m0 := RE.cell 0; have m1 := RE.cell 1; have m2 := RE.cell 2; have m3 := RE.cell 3; have m4 := RE.cell 4; have m5 := RE.cell 5; have m6 := RE.cell 6; have m7 := RE.cell 7; have m8 := RE.cell 8; simp at m0 m1 m2 m3 m4 m5 m6 m7 m8; have f0 := RE.frozen 0; have f1 := RE.frozen 1; have f2 := RE.frozen 2; have f3 := RE.frozen 3; have f4 := RE.frozen 4; have f5 := RE.frozen 5; have f6 := RE.frozen 6; have f7 := RE.frozen 7; have f8 := RE.frozen 8; have lR := RE.lt; clear hrE hbE KE RE))
      all_goals
        go_wp2_with fail
        refine name_postO fun F hF => ?_
        have CF : Chg [w.heap.size, w.heap.size + 1] wE F := by subst hF; (repeat' (first | with_reducible exact Chg.refl _ _ | with_reducible refine Chg.alloc ?_ _ | with_reducible refine Chg.drew ?_ | with_reducible refine Chg.drewN ?_ _ | with_reducible refine Chg.set_ ?_ _ _ (by first | (simp; done) | (simp; omega) | omega)))
        have KF : Blk F (w.heap.size + 1) 61 ⟨nodeCells k x y A0 xs.length cp AB body.length kB AE els.length kE pos esc unit⟩ := by
          have q := hJ.out.b2.below HE.out.2.2 hJ.out.b2.lt
          subst hF; (repeat' (first | with_reducible exact q | with_reducible exact Blk.new_ (by first | rfl | (simp; done) | (simp; omega)) | with_reducible refine Blk.alloc_ ?_ | with_reducible refine Blk.drew ?_ | with_reducible refine Blk.drewN ?_ _ | with_reducible refine Blk.far_ ?_ (by first | (simp; done) | (simp; omega) | omega) | with_reducible apply Blk.set_eq | rfl))
        clear hF p0 p1 p2 p3 p4 p5 p6 p7 p8 r0 r1 r2 r3 r4 r5 r6 r7 r8 t0 t1 t2 t3 t4 t5 t6 t7 t8 z0 z1 z2 z3 z4 z5 z6 z7 z8 m0 m1 m2 m3 m4 m5 m6 m7 m8 f0 f1 f2 f3 f4 f5 f6 f7 f8
        have r0 := KF.cell 0; have r1 := KF.cell 1; have r2 := KF.cell 2; have r3 := KF.cell 3; have r4 := KF.cell 4; have r5 := KF.cell 5; have r6 := KF.cell 6; have r7 := KF.cell 7; have r8 := KF.cell 8; simp at r0 r1 r2 r3 r4 r5 r6 r7 r8
        clear KF
        have hRes : NodeOwn (n + 1) w (⟨k, s, nm, xs, body, els, pos, esc, unit⟩ : NN (NT n)) (.returned (.agg ⟨nodeCells k x y A0 xs.length cp AB body.length kB AE els.length kE pos esc unit⟩)) F := by
          have hst : ∀ N, w.heap.size + 2 ≤ N → Stays (freshB N) (freshB w.heap.size) wE F := fun N hN => by
            refine ⟨CF.size, fun b h1 h2 => ?_⟩
            obtain ⟨h2, cs, t, h3⟩ := h2
            have h4 := CF.block b h1 (by simp; omega)
            exact ⟨h4, by omega, cs, t, h4.trans h3⟩
          have rp := ((hJ.out.row.below CallR.steady HE.out.2.2).at_ CallR.steady (N := w.heap.size + 2) rfl (Nat.le_refl _)).on CallR.steady (hst _ (Nat.le_refl _))
          have rb := ((HB.out.1.below (NodeR.steady n) HE.out.2.1).at_ (NodeR.steady n) (N := w.heap.size + 2) rfl (by simpa using hzo)).on (NodeR.steady n) (hst _ (Nat.le_refl _))
          have re := (HE.out.1.at_ (NodeR.steady n) (N := w.heap.size + 2) rfl (Nat.le_trans hzo HB.out.2.size)).on (NodeR.steady n) (hst _ (Nat.le_refl _))
          refine ⟨k, x, y, A0, _, cp, AB, _, kB, AE, _, kE, pos, esc, unit, rfl, ?_, ((hJ.out.bel.below HE.out.2.2).trans CF (by intro q hq; simp at hq; omega)).bel⟩
          rw [← HX.out, ← HY.out]
          exact NodeR.made (x := (⟨k, s, nm, xs, body, els, pos, esc, unit⟩ : NN (NT n))) rp rb re
        exact bodyPost_ret (v := .agg ⟨nodeCells k x y A0 xs.length cp AB body.length kB AE els.length kE pos esc unit⟩) (by simp [results, Tryz.results48, go_sem, r0, r1, r2, r3, r4, r5, r6, r7, r8]) rfl hRes
end Go.Proofs.YtnepogddjinpoaaGreatDoor
