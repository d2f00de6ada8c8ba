/-
  PLAIN LAWS of many texts, in one.
-/
import Derived.Test.YtnepogddjinpoaaGreatDoorM9
import Derived.Test.YtnepogddjinpoaaGreatDoorC3
import Derived.Test.YtnepogddjinpoaaGreatDoorQB
import Derived.OrdersHeld
namespace Go.Proofs.YtnepogddjinpoaaGreatDoor
open Go.ChangeShapes Go.WideShapes Go.ChangeAt Go.RowKit Go.Joins Go.Deep
set_option linter.unusedVariables false
set_option linter.unusedSimpArgs false

def numA (x : ArgD) : Prop := -9223372036854775808 ≤ x.i ∧ x.i ≤ 9223372036854775807
def numC (x : CallD) : Prop := ∀ y ∈ x.args, numA y
/-- What R says of it, and P. -/
abbrev WithP {α : Type} (R : Rel α) (P : α → Prop) : Rel α := fun U w vs x => R U w vs x ∧ P x
theorem AtR.both {α : Type} {R : Rel α} {P : α → Prop} {size : Nat} {U : World → Nat → Prop} {w : World} {a : Option Addr} {l : List α} (h : AtR (WithP R P) size U w a l) : AtR R size U w a l ∧ ∀ x ∈ l, P x := by
  refine ⟨fun j x hx => ?_, fun x hx => ?_⟩
  · obtain ⟨b, off, vs, h1, h2, h3, h4, h5, h6⟩ := h j x hx
    exact ⟨b, off, vs, h1, h2, h3, h4, h5, h6.1⟩
  · obtain ⟨j, hj⟩ := List.getElem?_of_mem hx
    obtain ⟨b, off, vs, h1, h2, h3, h4, h5, h6⟩ := h j x hj
    exact h6.2
/-- A variable: its name, and its value. -/
def NamedR (n : Nat) : Rel (List UInt8 × VT n) := fun U w vs y => ∃ v : VF, vs = .string ⟨y.1.toArray⟩ :: v.cells ∧ IsV U w n v.val y.2
theorem NamedR.steady (n : Nat) : Steady (NamedR n) := fun _ _ _ _ hs vs y ⟨v, h1, h2⟩ => ⟨v, h1, IsV.on hs n _ _ h2⟩
abbrev envCells (r d : VF) (a : Option Addr) (n c : Nat) : Array Value := #[.int .i64 r.k, .int .i64 r.i, .string r.s, .slice r.a r.n r.c, .slice r.a2 r.n2 r.c2, .int .i64 d.k, .int .i64 d.i, .string d.s, .slice d.a d.n d.c, .slice d.a2 d.n2 d.c2, .slice a n c]
structure EnvP (n : Nat) (U : World → Nat → Prop) (w : World) (r d : VF) (a : Option Addr) (e : EnvD n) : Prop where
  root : IsV U w (n + 1) r.val e.root
  dot : IsV U w (n + 1) d.val e.dot
  vars : AtR (NamedR (n + 1)) 6 U w a e.vars
theorem EnvP.on {n : Nat} {U U' : World → Nat → Prop} {w w' : World} {r d : VF} {a : Option Addr} {e : EnvD n} (h : EnvP n U w r d a e) (hs : Stays U U' w w') : EnvP n U' w' r d a e :=
  ⟨IsV.on hs _ _ _ h.root, IsV.on hs _ _ _ h.dot, h.vars.on (NamedR.steady _) hs⟩
/-- An environment that stands in a world. -/
def EnvAt (n : Nat) (U : World → Nat → Prop) (w : World) (v : Value) (e : EnvD n) : Prop :=
  ∃ (r d : VF) (a : Option Addr) (c : Nat), v = .agg (envCells r d a e.vars.length c) ∧ EnvP n U w r d a e
section
variable {H : Type} {enc : TypeId × Value → H}
set_option maxRecDepth 100000 in
theorem open_argN {w : World} {fuel : Nat} (cs : List Value) (x : DataW H × List MemPlace) (h : DataW.trod enc Tryz.prog w 0 (fun _ => true) true fuel 35 cs = some x) : ∃ d : ArgD, WithP ArgR numA anyB w cs d ∧ massA d ≤ Rows.uptoBulk x.1 := by
  obtain ⟨d, hR, hm⟩ := open_argE cs x h
  have hC : Tryz.prog.cellsOf 35 = 5 := by kernel_rfl
  have c1 : Tryz.prog.cellsOf 3 = 1 := by kernel_rfl
  have c2 : Tryz.prog.cellsOf 9 = 1 := by kernel_rfl
  have c4 : Tryz.prog.cellsOf 24 = 1 := by kernel_rfl
  obtain ⟨xs, n, hfu, hx, hcl, hlen, hg⟩ := DataW.trod_struct Tryz.underlying35 h
  rw [hC] at hcl
  refine ⟨d, ⟨hR, ?_⟩, hm⟩
  obtain ⟨a, c, hcs, _⟩ := hR
  subst hcs
  match xs, hlen with
  | [y0, y1, y2, y3, y4], _ =>
    have g3 := hg 3 _ rfl
    simp [c1, c2, c4] at g3
    obtain ⟨i, e3, d3, wi⟩ := DataW.trod_int Tryz.underlying3 g3
    have bi := bounds_i64 wi
    simp at e3
    rw [← e3] at bi
    exact bi
set_option maxRecDepth 100000 in
theorem open_callN {w : World} {fuel : Nat} (cs : List Value) (x : DataW H × List MemPlace) (h : DataW.trod enc Tryz.prog w 0 (fun _ => true) true fuel 33 cs = some x) : ∃ d : CallD, WithP CallR numC anyB w cs d ∧ massC d ≤ Rows.uptoBulk x.1 := by
  have hC : Tryz.prog.cellsOf 33 = 2 := by kernel_rfl
  have c2 : Tryz.prog.cellsOf 9 = 1 := by kernel_rfl
  have c4 : Tryz.prog.cellsOf 31 = 1 := by kernel_rfl
  obtain ⟨xs, n, hfu, hx, hcl, hlen, hg⟩ := DataW.trod_struct Tryz.underlying33 h
  rw [hC] at hcl
  match cs, hcl, xs, hlen with
  | [v0, v1], _, [y0, y1], _ =>
    have g0 := hg 0 _ rfl
    have g1 := hg 1 _ rfl
    simp [c2, c4] at g0 g1
    obtain ⟨nm, e0, d0, _⟩ := DataW.trod_string Tryz.underlying9 g0
    obtain ⟨a1, c1', args, e1, hS, hS1⟩ := open_list (size := 5) Tryz.underlying31 (by kernel_rfl) (by decide) (WithP ArgR numA) massA (fun n2 _ cs x h => open_argN cs x h) g1
    simp at e0 e1
    subst e0; subst e1
    have hb : Rows.uptoBulk x.1 = Rows.uptoBulk y0.1 + (Rows.uptoBulk y1.1 + 0) + 1 := by rw [hx]; rfl
    have h0 : nm.data.toList.length + 1 ≤ Rows.uptoBulk y0.1 := by rw [d0]; simp [Rows.uptoBulk]
    obtain ⟨hS2, hS3⟩ := hS.both
    refine ⟨⟨nm.data.toList, args⟩, ⟨⟨a1, c1', by simp only [str_back], hS2⟩, hS3⟩, ?_⟩
    unfold massC
    simp only
    omega
set_option maxRecDepth 100000 in
theorem open_namedN {w : World} {fuel m : Nat} (hm : fuel ≤ m) (cs : List Value) (x : DataW H × List MemPlace) (h : DataW.trod enc Tryz.prog w 0 (fun _ => true) true fuel 78 cs = some x) :
    ∃ y : List UInt8 × VT m, WithP (NamedR m) (fun y => NumV m y.2) anyB w cs y ∧ y.1.length + massV m y.2 + 1 ≤ Rows.uptoBulk x.1 := by
  have hC : Tryz.prog.cellsOf 78 = 6 := by kernel_rfl
  have c1 : Tryz.prog.cellsOf 9 = 1 := by kernel_rfl
  have c2 : Tryz.prog.cellsOf 26 = 5 := by kernel_rfl
  obtain ⟨xs, n, hfu, hx, hcl, hlen, hg⟩ := DataW.trod_struct Tryz.underlying78 h
  rw [hC] at hcl
  match cs, hcl, xs, hlen with
  | [v0, v1, v2, v3, v4, v5], _, [y0, y1], _ =>
    have g0 := hg 0 _ rfl
    have g1 := hg 1 _ rfl
    simp [c1, c2] at g0 g1
    obtain ⟨s, e0, d0, _⟩ := DataW.trod_string Tryz.underlying9 g0
    simp at e0
    subst e0
    obtain ⟨d, hd, hd2, hd3⟩ := open_trod_mass n m (by omega) _ _ g1
    obtain ⟨f, hf⟩ := hd.shape
    have hf2 := hf
    simp [VF.val, valV] at hf2
    obtain ⟨f0, f1, f2, f3, f4⟩ := hf2
    subst f0; subst f1; subst f2; subst f3; subst f4
    have hb : Rows.uptoBulk x.1 = Rows.uptoBulk y0.1 + (Rows.uptoBulk y1.1 + 0) + 1 := by rw [hx]; rfl
    have h0 : s.data.toList.length + 1 ≤ Rows.uptoBulk y0.1 := by rw [d0]; simp [Rows.uptoBulk]
    refine ⟨(s.data.toList, d), ⟨⟨f, by rw [str_back]; rfl, hd⟩, hd3⟩, ?_⟩
    show s.data.toList.length + massV m d + 1 ≤ _
    omega
/-- How much an environment holds. -/
def massE {n : Nat} (e : EnvD n) : Nat := massV (n + 1) e.root + massV (n + 1) e.dot + sumBy (fun y => y.1.length + massV (n + 1) y.2 + 1) e.vars
def NumE {n : Nat} (e : EnvD n) : Prop := NumV (n + 1) e.root ∧ NumV (n + 1) e.dot ∧ ∀ y ∈ e.vars, NumV (n + 1) y.2
theorem good_env {n : Nat} {e : EnvD n} (hm : massE e ≤ 1048576) (hn : NumE e) : GoodE e := by
  have hm3 : sumBy (fun y : List UInt8 × VT (n + 1) => y.1.length + massV (n + 1) y.2 + 1) e.vars ≤ 1048576 := Nat.le_trans (Nat.le_add_left _ _) hm
  unfold massE at hm
  refine ⟨⟨by omega, hn.1⟩, ⟨by omega, hn.2.1⟩, fun y hy => ⟨?_, hn.2.2 y hy⟩⟩
  have h := sumBy_mem (fun y : List UInt8 × VT (n + 1) => y.1.length + massV (n + 1) y.2 + 1) e.vars y hy
  exact Nat.le_trans (show massV (n + 1) y.2 ≤ y.1.length + massV (n + 1) y.2 + 1 by omega) (Nat.le_trans h hm3)
set_option maxRecDepth 100000 in
theorem open_envN {w : World} {r : Reach} {b0 : Nat} {v : Value} {d : DataW H} {p : List MemPlace} (hv : Value.okWide Tryz.prog w r b0 29 v) (h : DataW.Trod enc Tryz.prog w 0 (fun _ => true) true 29 v d p) :
    ∃ n : Nat, ∀ m, n ≤ m → ∃ e : EnvD m, EnvAt m anyB w v e ∧ massE e ≤ Rows.uptoBulk d ∧ NumE e := by
  have hC : Tryz.prog.cellsOf 29 = 11 := by kernel_rfl
  have c1 : Tryz.prog.cellsOf 26 = 5 := by kernel_rfl
  have c2 : Tryz.prog.cellsOf 27 = 1 := by kernel_rfl
  obtain ⟨cs, rfl, hsz⟩ := okWide_struct Tryz.underlying29 hv
  obtain ⟨l⟩ := cs
  obtain ⟨fuel, hf⟩ := h
  have hf' : DataW.trod enc Tryz.prog w 0 (fun _ => true) true fuel 29 l = some (d, p) := hf
  clear hf hsz
  refine ⟨fuel, fun m hm => ?_⟩
  obtain ⟨xs, n, hfu, hx, hcl, hlen, hg⟩ := DataW.trod_struct Tryz.underlying29 hf'
  rw [hC] at hcl
  match l, hcl, xs, hlen with
  | [v0, v1, v2, v3, v4, v5, v6, v7, v8, v9, v10], _, [y0, y1, y2], _ =>
    have g0 := hg 0 _ rfl
    have g1 := hg 1 _ rfl
    have g2 := hg 2 _ rfl
    simp [c1, c2] at g0 g1 g2
    obtain ⟨t0, hd0, hm0, hn0⟩ := open_trod_mass n (m + 1) (by omega) _ _ g0
    obtain ⟨t1, hd1, hm1, hn1⟩ := open_trod_mass n (m + 1) (by omega) _ _ g1
    obtain ⟨a, c, vars, e2, hN, hm2⟩ := open_list (size := 6) Tryz.underlying27 (by kernel_rfl) (by decide) (WithP (NamedR (m + 1)) (fun y => NumV (m + 1) y.2)) (fun y : List UInt8 × VT (m + 1) => y.1.length + massV (m + 1) y.2 + 1) (fun n2 h2 cs x h => open_namedN (m := m + 1) (by omega) cs x h) g2
    obtain ⟨hN1, hN2⟩ := hN.both
    obtain ⟨f, hf0⟩ := hd0.shape
    obtain ⟨f', hf1⟩ := hd1.shape
    have hh0 := hf0; have hh1 := hf1
    simp [VF.val, valV] at hh0 hh1
    obtain ⟨a0, a1, a2, a3, a4⟩ := hh0
    obtain ⟨a5, a6, a7, a8, a9⟩ := hh1
    simp at e2
    subst a0; subst a1; subst a2; subst a3; subst a4; subst a5; subst a6; subst a7; subst a8; subst a9; subst e2
    have hb : Rows.uptoBulk d = Rows.uptoBulk y0.1 + (Rows.uptoBulk y1.1 + (Rows.uptoBulk y2.1 + 0)) + 1 := by have := congrArg Prod.fst hx; simp at this; rw [this]; rfl
    refine ⟨⟨t0, t1, vars⟩, ⟨f, f', a, c, rfl, hd0, hd1, hN1⟩, ?_, hn0, hn1, hN2⟩
    show massV (m + 1) t0 + massV (m + 1) t1 + sumBy (fun y => y.1.length + massV (m + 1) y.2 + 1) vars ≤ _
    omega
end
set_option maxRecDepth 100000 in
/-- Calls that came in. -/
theorem open_calls {H : Type} {enc : TypeId × Value → H} {w : World} {r : Reach} {b0 : Nat} {v : Value} {d : DataW H} {p : List MemPlace} (hv : Value.okWide Tryz.prog w r b0 22 v) (h : DataW.Trod enc Tryz.prog w 0 (fun _ => true) true 22 v d p) :
    ∃ (a : Option Addr) (c : Nat) (l : List CallD), v = .slice a l.length c ∧ AtR CallR 2 anyB w a l ∧ sumBy massC l ≤ Rows.uptoBulk d ∧ ∀ x ∈ l, numC x := by
  obtain ⟨a0, len, cap, rfl⟩ := okWide_slice Tryz.underlying22 hv
  obtain ⟨fuel, hf⟩ := h
  have hf' : DataW.trod enc Tryz.prog w 0 (fun _ => true) true fuel 22 [.slice a0 len cap] = some (d, p) := hf
  obtain ⟨a, c, l, he, h1, h2⟩ := open_list (size := 2) Tryz.underlying22 (by kernel_rfl) (by decide) (WithP CallR numC) massC (fun n2 h2 cs x h => open_callN cs x h) hf'
  simp at he
  obtain ⟨rfl, rfl, rfl⟩ := he
  have h2 : sumBy massC l + 1 ≤ Rows.uptoBulk d := h2
  obtain ⟨h3, h4⟩ := h1.both
  exact ⟨a0, cap, l, rfl, h3, by omega, h4⟩
set_option maxRecDepth 100000 in
theorem again_calls {H : Type} {enc : TypeId × Value → H} {W W' : World} {v : Value} {d : DataW H} {ps : List MemPlace} (h : DataW.Trod enc Tryz.prog W 0 (fun _ => true) true 22 v d ps) (hb : Below W.heap.size W W') (hlt : ∀ x ∈ ps, x.block < W.heap.size) (sp : Nat → Bool) (hsp : ∀ x ∈ ps, sp x.block = true) :
    DataW.Trod enc Tryz.prog W' 0 sp true 22 v d ps :=
  WideElems.Trod_stays laidOutV (by kernel_rfl) (of_decide_eq_true (by kernel_rfl)) h (fun x hx => hb.same (hlt x hx)) hsp
set_option maxRecDepth 100000 in
theorem again_envN {H : Type} {enc : TypeId × Value → H} {W W' : World} {v : Value} {d : DataW H} {ps : List MemPlace} (h : DataW.Trod enc Tryz.prog W 0 (fun _ => true) true 29 v d ps) (hb : Below W.heap.size W W') (hlt : ∀ x ∈ ps, x.block < W.heap.size) (sp : Nat → Bool) (hsp : ∀ x ∈ ps, sp x.block = true) :
    DataW.Trod enc Tryz.prog W' 0 sp true 29 v d ps :=
  WideElems.Trod_stays laidOutV (by kernel_rfl) (of_decide_eq_true (by kernel_rfl)) h (fun x hx => hb.same (hlt x hx)) hsp
end Go.Proofs.YtnepogddjinpoaaGreatDoor

namespace Go.Proofs.YtnepogddjinpoaaGreatDoor
open Go.RowKit
set_option linter.unusedVariables false
set_option linter.unusedSimpArgs false

set_option maxHeartbeats 2000000 in
set_option maxRecDepth 100000 in
theorem cArg_int (r d : VF) (av : Option Addr) (nv cv : Nat) (nm : ByteArray) (ap : Option Addr) (np cp : Nat) (i : Int) (s : ByteArray) (w : World) :
    Calls Tryz.prog 24 #[.agg (envCells r d av nv cv), .agg #[.int .i64 3, .string nm, .slice ap np cp, .int .i64 i, .string s]] w fun e w' => e = .returned (.tuple #[vFlat 3 i ⟨#[]⟩, .int .i64 0]) ∧ Below w.heap.size w w' := by
  have cX := hide (fun W => cInt i W)
  go_enter Tryz.func24, Tryz.ntmps24
  go_wp2_with fail
  refine name_world fun W hW => ?_
  have C1 : Chg [] w W := by subst hW; (repeat' (first | with_reducible exact Chg.refl _ _ | with_reducible refine Chg.alloc ?_ _ | with_reducible refine Chg.drew ?_ | with_reducible refine Chg.drewN ?_ _ | with_reducible refine Chg.set_ ?_ _ _ (by first | (simp; done) | (simp; omega) | omega)))
  have KR : Blk W (w.heap.size + 2) 26 (vCells 0 0 ⟨#[]⟩ none 0 0 none 0 0) := by subst hW; (repeat' (first | with_reducible exact Blk.new_ (by first | rfl | (simp; done) | (simp; omega)) | with_reducible refine Blk.alloc_ ?_ | with_reducible refine Blk.drew ?_ | with_reducible refine Blk.drewN ?_ _ | with_reducible refine Blk.far_ ?_ (by first | (simp; done) | (simp; omega) | omega) | with_reducible apply Blk.set_eq | rfl))
  clear hW
  refine (cX.out W).mono ?_
  rintro e w1 ⟨rfl, hb1⟩
  have C2 := C1.trans (Chg.of_below (S := []) hb1) (by simp)
  have KR := KR.chg (Chg.of_below (S := []) hb1) (by simp)
  have HC2 := hide C2
  have HR := hide KR
  have r0 := KR.cell 0; have r1 := KR.cell 1; have r2 := KR.cell 2; have r3 := KR.cell 3; have r4 := KR.cell 4; simp at r0 r1 r2 r3 r4
  have z0 := KR.frozen 0; have z1 := KR.frozen 1; have z2 := KR.frozen 2; have z3 := KR.frozen 3; have z4 := KR.frozen 4
  have lR := KR.lt
  clear KR C2 C1 hb1
  go_wp2_with fail
  refine name_postO fun W2 hW => ?_
  have C3 : Chg [w.heap.size + 2] w1 W2 := by subst hW; (repeat' (first | with_reducible exact Chg.refl _ _ | with_reducible refine Chg.alloc ?_ _ | with_reducible refine Chg.drew ?_ | with_reducible refine Chg.drewN ?_ _ | with_reducible refine Chg.set_ ?_ _ _ (by first | (simp; done) | (simp; omega) | omega)))
  have K2 : Blk W2 (w.heap.size + 2) 26 (vCells 3 i ⟨#[]⟩ none 0 0 none 0 0) := by subst hW; (repeat' (first | with_reducible exact HR.out | with_reducible exact Blk.new_ (by first | rfl | (simp; done) | (simp; omega)) | with_reducible refine Blk.alloc_ ?_ | with_reducible refine Blk.drew ?_ | with_reducible refine Blk.drewN ?_ _ | with_reducible refine Blk.far_ ?_ (by first | (simp; done) | (simp; omega) | omega) | with_reducible apply Blk.set_eq | rfl))
  clear r0 r1 r2 r3 r4 z0 z1 z2 z3 z4
  have k0 := K2.cell 0; have k1 := K2.cell 1; have k2 := K2.cell 2; have k3 := K2.cell 3; have k4 := K2.cell 4; simp at k0 k1 k2 k3 k4
  clear hW K2
  simp [bodyPost, results, Tryz.results24, go_sem, k0, k1, k2, k3, k4]
  exact ((HC2.out.mono (S' := [w.heap.size + 2]) (by simp)).trans C3 (by simp) |>.mono (S' := []) (by intro x hx; simp at hx; subst hx; exact .inr (by omega))).bel

set_option maxHeartbeats 2000000 in
set_option maxRecDepth 100000 in
theorem cArg_text (r d : VF) (av : Option Addr) (nv cv : Nat) (nm : ByteArray) (ap : Option Addr) (np cp : Nat) (i : Int) (s : ByteArray) (w : World) :
    Calls Tryz.prog 24 #[.agg (envCells r d av nv cv), .agg #[.int .i64 4, .string nm, .slice ap np cp, .int .i64 i, .string s]] w fun e w' => e = .returned (.tuple #[vFlat 4 0 s, .int .i64 0]) ∧ Below w.heap.size w w' := by
  have cX := hide (fun W => cText s W)
  go_enter Tryz.func24, Tryz.ntmps24
  go_wp2_with fail
  refine name_world fun W hW => ?_
  have C1 : Chg [] w W := by subst hW; (repeat' (first | with_reducible exact Chg.refl _ _ | with_reducible refine Chg.alloc ?_ _ | with_reducible refine Chg.drew ?_ | with_reducible refine Chg.drewN ?_ _ | with_reducible refine Chg.set_ ?_ _ _ (by first | (simp; done) | (simp; omega) | omega)))
  have KR : Blk W (w.heap.size + 2) 26 (vCells 0 0 ⟨#[]⟩ none 0 0 none 0 0) := by subst hW; (repeat' (first | with_reducible exact Blk.new_ (by first | rfl | (simp; done) | (simp; omega)) | with_reducible refine Blk.alloc_ ?_ | with_reducible refine Blk.drew ?_ | with_reducible refine Blk.drewN ?_ _ | with_reducible refine Blk.far_ ?_ (by first | (simp; done) | (simp; omega) | omega) | with_reducible apply Blk.set_eq | rfl))
  clear hW
  refine (cX.out W).mono ?_
  rintro e w1 ⟨rfl, hb1⟩
  have C2 := C1.trans (Chg.of_below (S := []) hb1) (by simp)
  have KR := KR.chg (Chg.of_below (S := []) hb1) (by simp)
  have HC2 := hide C2
  have HR := hide KR
  have r0 := KR.cell 0; have r1 := KR.cell 1; have r2 := KR.cell 2; have r3 := KR.cell 3; have r4 := KR.cell 4; simp at r0 r1 r2 r3 r4
  have z0 := KR.frozen 0; have z1 := KR.frozen 1; have z2 := KR.frozen 2; have z3 := KR.frozen 3; have z4 := KR.frozen 4
  have lR := KR.lt
  clear KR C2 C1 hb1
  go_wp2_with fail
  refine name_postO fun W2 hW => ?_
  have C3 : Chg [w.heap.size + 2] w1 W2 := by subst hW; (repeat' (first | with_reducible exact Chg.refl _ _ | with_reducible refine Chg.alloc ?_ _ | with_reducible refine Chg.drew ?_ | with_reducible refine Chg.drewN ?_ _ | with_reducible refine Chg.set_ ?_ _ _ (by first | (simp; done) | (simp; omega) | omega)))
  have K2 : Blk W2 (w.heap.size + 2) 26 (vCells 4 0 s none 0 0 none 0 0) := by subst hW; (repeat' (first | with_reducible exact HR.out | with_reducible exact Blk.new_ (by first | rfl | (simp; done) | (simp; omega)) | with_reducible refine Blk.alloc_ ?_ | with_reducible refine Blk.drew ?_ | with_reducible refine Blk.drewN ?_ _ | with_reducible refine Blk.far_ ?_ (by first | (simp; done) | (simp; omega) | omega) | with_reducible apply Blk.set_eq | rfl))
  clear r0 r1 r2 r3 r4 z0 z1 z2 z3 z4
  have k0 := K2.cell 0; have k1 := K2.cell 1; have k2 := K2.cell 2; have k3 := K2.cell 3; have k4 := K2.cell 4; simp at k0 k1 k2 k3 k4
  clear hW K2
  simp [bodyPost, results, Tryz.results24, go_sem, k0, k1, k2, k3, k4]
  exact ((HC2.out.mono (S' := [w.heap.size + 2]) (by simp)).trans C3 (by simp) |>.mono (S' := []) (by intro x hx; simp at hx; subst hx; exact .inr (by omega))).bel

set_option maxHeartbeats 2000000 in
set_option maxRecDepth 100000 in
theorem cArg_yes (r d : VF) (av : Option Addr) (nv cv : Nat) (nm : ByteArray) (ap : Option Addr) (np cp : Nat) (i : Int) (s : ByteArray) (w : World) :
    Calls Tryz.prog 24 #[.agg (envCells r d av nv cv), .agg #[.int .i64 5, .string nm, .slice ap np cp, .int .i64 i, .string s]] w fun e w' => e = .returned (.tuple #[vFlat 2 0 ⟨#[]⟩, .int .i64 0]) ∧ Below w.heap.size w w' := by
  have cX := hide (fun W => cTruth true W)
  simp only [if_true] at cX
  go_enter Tryz.func24, Tryz.ntmps24
  go_wp2_with fail
  refine name_world fun W hW => ?_
  have C1 : Chg [] w W := by subst hW; (repeat' (first | with_reducible exact Chg.refl _ _ | with_reducible refine Chg.alloc ?_ _ | with_reducible refine Chg.drew ?_ | with_reducible refine Chg.drewN ?_ _ | with_reducible refine Chg.set_ ?_ _ _ (by first | (simp; done) | (simp; omega) | omega)))
  have KR : Blk W (w.heap.size + 2) 26 (vCells 0 0 ⟨#[]⟩ none 0 0 none 0 0) := by subst hW; (repeat' (first | with_reducible exact Blk.new_ (by first | rfl | (simp; done) | (simp; omega)) | with_reducible refine Blk.alloc_ ?_ | with_reducible refine Blk.drew ?_ | with_reducible refine Blk.drewN ?_ _ | with_reducible refine Blk.far_ ?_ (by first | (simp; done) | (simp; omega) | omega) | with_reducible apply Blk.set_eq | rfl))
  clear hW
  refine (cX.out W).mono ?_
  rintro e w1 ⟨rfl, hb1⟩
  have C2 := C1.trans (Chg.of_below (S := []) hb1) (by simp)
  have KR := KR.chg (Chg.of_below (S := []) hb1) (by simp)
  have HC2 := hide C2
  have HR := hide KR
  have r0 := KR.cell 0; have r1 := KR.cell 1; have r2 := KR.cell 2; have r3 := KR.cell 3; have r4 := KR.cell 4; simp at r0 r1 r2 r3 r4
  have z0 := KR.frozen 0; have z1 := KR.frozen 1; have z2 := KR.frozen 2; have z3 := KR.frozen 3; have z4 := KR.frozen 4
  have lR := KR.lt
  clear KR C2 C1 hb1
  go_wp2_with fail
  refine name_postO fun W2 hW => ?_
  have C3 : Chg [w.heap.size + 2] w1 W2 := by subst hW; (repeat' (first | with_reducible exact Chg.refl _ _ | with_reducible refine Chg.alloc ?_ _ | with_reducible refine Chg.drew ?_ | with_reducible refine Chg.drewN ?_ _ | with_reducible refine Chg.set_ ?_ _ _ (by first | (simp; done) | (simp; omega) | omega)))
  have K2 : Blk W2 (w.heap.size + 2) 26 (vCells 2 0 ⟨#[]⟩ none 0 0 none 0 0) := by subst hW; (repeat' (first | with_reducible exact HR.out | with_reducible exact Blk.new_ (by first | rfl | (simp; done) | (simp; omega)) | with_reducible refine Blk.alloc_ ?_ | with_reducible refine Blk.drew ?_ | with_reducible refine Blk.drewN ?_ _ | with_reducible refine Blk.far_ ?_ (by first | (simp; done) | (simp; omega) | omega) | with_reducible apply Blk.set_eq | rfl))
  clear r0 r1 r2 r3 r4 z0 z1 z2 z3 z4
  have k0 := K2.cell 0; have k1 := K2.cell 1; have k2 := K2.cell 2; have k3 := K2.cell 3; have k4 := K2.cell 4; simp at k0 k1 k2 k3 k4
  clear hW K2
  simp [bodyPost, results, Tryz.results24, go_sem, k0, k1, k2, k3, k4]
  exact ((HC2.out.mono (S' := [w.heap.size + 2]) (by simp)).trans C3 (by simp) |>.mono (S' := []) (by intro x hx; simp at hx; subst hx; exact .inr (by omega))).bel

set_option maxHeartbeats 2000000 in
set_option maxRecDepth 100000 in
theorem cArg_no (r d : VF) (av : Option Addr) (nv cv : Nat) (nm : ByteArray) (ap : Option Addr) (np cp : Nat) (i : Int) (s : ByteArray) (w : World) :
    Calls Tryz.prog 24 #[.agg (envCells r d av nv cv), .agg #[.int .i64 6, .string nm, .slice ap np cp, .int .i64 i, .string s]] w fun e w' => e = .returned (.tuple #[vFlat 1 0 ⟨#[]⟩, .int .i64 0]) ∧ Below w.heap.size w w' := by
  have cX := hide (fun W => cTruth false W)
  simp only [Bool.false_eq_true, if_false] at cX
  go_enter Tryz.func24, Tryz.ntmps24
  go_wp2_with fail
  refine name_world fun W hW => ?_
  have C1 : Chg [] w W := by subst hW; (repeat' (first | with_reducible exact Chg.refl _ _ | with_reducible refine Chg.alloc ?_ _ | with_reducible refine Chg.drew ?_ | with_reducible refine Chg.drewN ?_ _ | with_reducible refine Chg.set_ ?_ _ _ (by first | (simp; done) | (simp; omega) | omega)))
  have KR : Blk W (w.heap.size + 2) 26 (vCells 0 0 ⟨#[]⟩ none 0 0 none 0 0) := by subst hW; (repeat' (first | with_reducible exact Blk.new_ (by first | rfl | (simp; done) | (simp; omega)) | with_reducible refine Blk.alloc_ ?_ | with_reducible refine Blk.drew ?_ | with_reducible refine Blk.drewN ?_ _ | with_reducible refine Blk.far_ ?_ (by first | (simp; done) | (simp; omega) | omega) | with_reducible apply Blk.set_eq | rfl))
  clear hW
  refine (cX.out W).mono ?_
  rintro e w1 ⟨rfl, hb1⟩
  have C2 := C1.trans (Chg.of_below (S := []) hb1) (by simp)
  have KR := KR.chg (Chg.of_below (S := []) hb1) (by simp)
  have HC2 := hide C2
  have HR := hide KR
  have r0 := KR.cell 0; have r1 := KR.cell 1; have r2 := KR.cell 2; have r3 := KR.cell 3; have r4 := KR.cell 4; simp at r0 r1 r2 r3 r4
  have z0 := KR.frozen 0; have z1 := KR.frozen 1; have z2 := KR.frozen 2; have z3 := KR.frozen 3; have z4 := KR.frozen 4
  have lR := KR.lt
  clear KR C2 C1 hb1
  go_wp2_with fail
  refine name_postO fun W2 hW => ?_
  have C3 : Chg [w.heap.size + 2] w1 W2 := by subst hW; (repeat' (first | with_reducible exact Chg.refl _ _ | with_reducible refine Chg.alloc ?_ _ | with_reducible refine Chg.drew ?_ | with_reducible refine Chg.drewN ?_ _ | with_reducible refine Chg.set_ ?_ _ _ (by first | (simp; done) | (simp; omega) | omega)))
  have K2 : Blk W2 (w.heap.size + 2) 26 (vCells 1 0 ⟨#[]⟩ none 0 0 none 0 0) := by subst hW; (repeat' (first | with_reducible exact HR.out | with_reducible exact Blk.new_ (by first | rfl | (simp; done) | (simp; omega)) | with_reducible refine Blk.alloc_ ?_ | with_reducible refine Blk.drew ?_ | with_reducible refine Blk.drewN ?_ _ | with_reducible refine Blk.far_ ?_ (by first | (simp; done) | (simp; omega) | omega) | with_reducible apply Blk.set_eq | rfl))
  clear r0 r1 r2 r3 r4 z0 z1 z2 z3 z4
  have k0 := K2.cell 0; have k1 := K2.cell 1; have k2 := K2.cell 2; have k3 := K2.cell 3; have k4 := K2.cell 4; simp at k0 k1 k2 k3 k4
  clear hW K2
  simp [bodyPost, results, Tryz.results24, go_sem, k0, k1, k2, k3, k4]
  exact ((HC2.out.mono (S' := [w.heap.size + 2]) (by simp)).trans C3 (by simp) |>.mono (S' := []) (by intro x hx; simp at hx; subst hx; exact .inr (by omega))).bel

set_option maxHeartbeats 2000000 in
set_option maxRecDepth 100000 in
theorem cArg_nil (r d : VF) (av : Option Addr) (nv cv : Nat) (nm : ByteArray) (ap : Option Addr) (np cp : Nat) (i : Int) (s : ByteArray) (w : World) :
    Calls Tryz.prog 24 #[.agg (envCells r d av nv cv), .agg #[.int .i64 7, .string nm, .slice ap np cp, .int .i64 i, .string s]] w fun e w' => e = .returned (.tuple #[vFlat 0 0 ⟨#[]⟩, .int .i64 0]) ∧ Below w.heap.size w w' := by
  go_enter Tryz.func24, Tryz.ntmps24
  go_wp2_with fail
  refine name_postO fun W2 hW => ?_
  have C3 : Chg [] w W2 := by subst hW; (repeat' (first | with_reducible exact Chg.refl _ _ | with_reducible refine Chg.alloc ?_ _ | with_reducible refine Chg.drew ?_ | with_reducible refine Chg.drewN ?_ _ | with_reducible refine Chg.set_ ?_ _ _ (by first | (simp; done) | (simp; omega) | omega)))
  have K2 : Blk W2 (w.heap.size + 2) 26 (vCells 0 0 ⟨#[]⟩ none 0 0 none 0 0) := by subst hW; (repeat' (first | with_reducible exact Blk.new_ (by first | rfl | (simp; done) | (simp; omega)) | with_reducible refine Blk.alloc_ ?_ | with_reducible refine Blk.drew ?_ | with_reducible refine Blk.drewN ?_ _ | with_reducible refine Blk.far_ ?_ (by first | (simp; done) | (simp; omega) | omega) | with_reducible apply Blk.set_eq | rfl))
  have k0 := K2.cell 0; have k1 := K2.cell 1; have k2 := K2.cell 2; have k3 := K2.cell 3; have k4 := K2.cell 4; simp at k0 k1 k2 k3 k4
  clear hW K2
  simp [bodyPost, results, Tryz.results24, go_sem, k0, k1, k2, k3, k4]
  exact C3.bel

set_option maxHeartbeats 2000000 in
set_option maxRecDepth 100000 in
theorem cArg_odd (r d : VF) (av : Option Addr) (nv cv : Nat) (k : Int) (nm : ByteArray) (ap : Option Addr) (np cp : Nat) (i : Int) (s : ByteArray) (w : World) (h1 : ¬ k = 1) (h2 : ¬ k = 2) (h3 : ¬ k = 3) (h4 : ¬ k = 4) (h5 : ¬ k = 5) (h6 : ¬ k = 6) (h7 : ¬ k = 7) :
    Calls Tryz.prog 24 #[.agg (envCells r d av nv cv), .agg #[.int .i64 k, .string nm, .slice ap np cp, .int .i64 i, .string s]] w fun e w' => e = .returned (.tuple #[vFlat 0 0 ⟨#[]⟩, .int .i64 9]) ∧ Below w.heap.size w w' := by
  have e1 : (k == 1) = false := by simpa using h1
  have e2 : (k == 2) = false := by simpa using h2
  have e3 : (k == 3) = false := by simpa using h3
  have e4 : (k == 4) = false := by simpa using h4
  have e5 : (k == 5) = false := by simpa using h5
  have e6 : (k == 6) = false := by simpa using h6
  have e7 : (k == 7) = false := by simpa using h7
  go_enter Tryz.func24, Tryz.ntmps24
  go_wp2_with fail
  refine name_postO fun W2 hW => ?_
  have C3 : Chg [] w W2 := by subst hW; (repeat' (first | with_reducible exact Chg.refl _ _ | with_reducible refine Chg.alloc ?_ _ | with_reducible refine Chg.drew ?_ | with_reducible refine Chg.drewN ?_ _ | with_reducible refine Chg.set_ ?_ _ _ (by first | (simp; done) | (simp; omega) | omega)))
  have K2 : Blk W2 (w.heap.size + 2) 26 (vCells 0 0 ⟨#[]⟩ none 0 0 none 0 0) := by subst hW; (repeat' (first | with_reducible exact Blk.new_ (by first | rfl | (simp; done) | (simp; omega)) | with_reducible refine Blk.alloc_ ?_ | with_reducible refine Blk.drew ?_ | with_reducible refine Blk.drewN ?_ _ | with_reducible refine Blk.far_ ?_ (by first | (simp; done) | (simp; omega) | omega) | with_reducible apply Blk.set_eq | rfl))
  have k0 := K2.cell 0; have k1 := K2.cell 1; have k2 := K2.cell 2; have k3 := K2.cell 3; have k4 := K2.cell 4; simp at k0 k1 k2 k3 k4
  clear hW K2
  simp [bodyPost, results, Tryz.results24, go_sem, k0, k1, k2, k3, k4]
  exact C3.bel

end Go.Proofs.YtnepogddjinpoaaGreatDoor

namespace Go.Proofs.YtnepogddjinpoaaGreatDoor
open Go.RowKit
set_option linter.unusedVariables false
set_option linter.unusedSimpArgs false

section
variable {P : Program} {md : Region.Mode} {ops : Array Oper} {Q : Exit → Act → World → Prop}
theorem wpOp_enter {i : Nat} {o : Oper} {K : Act → World → Prop} {a : Act} {w : World} (f : FuncId) (args : Array Value) (hi : ops[i]? = some o) (hg : Region.wanted o (yielded ops a.tmps) = true) (hr : (execOp a.eval o).run P w = .ok (.enter f args) w)
    (h : Calls P f args w (fun e w' => ∃ v, e = .returned v ∧ K (a.put o.dst v) w')) : wpOp P ops Q i K a w := by
  unfold wpOp
  simp only [hi]
  rw [if_pos hg]
  refine .inl ?_
  unfold Oper.wp
  rw [hr]
  refine Calls.mono h ?_
  rintro e w' ⟨v, rfl, hk⟩
  exact hk
theorem wpOp_does {i : Nat} {o : Oper} {K : Act → World → Prop} {a : Act} {w w' : World} {v : Value} (hi : ops[i]? = some o) (hg : Region.wanted o (yielded ops a.tmps) = true) (hr : (execOp a.eval o).run P w = .ok (.value v) w') (h : K (a.put o.dst v) w') : wpOp P ops Q i K a w := by
  unfold wpOp
  simp only [hi]
  rw [if_pos hg]
  refine .inl ?_
  unfold Oper.wp
  rw [hr]
  exact h
theorem wpOp_skips {i : Nat} {o : Oper} {K : Act → World → Prop} {a : Act} {w w' : World} (hi : ops[i]? = some o) (hg : Region.wanted o (yielded ops a.tmps) = true) (hr : (execOp a.eval o).run P w = .ok .skip w') (h : K (a.put o.dst undef) w') : wpOp P ops Q i K a w := by
  unfold wpOp
  simp only [hi]
  rw [if_pos hg]
  refine .inl ?_
  unfold Oper.wp
  rw [hr]
  exact h
end
end Go.Proofs.YtnepogddjinpoaaGreatDoor

namespace Go.Proofs.YtnepogddjinpoaaGreatDoor
open Go.RowKit
set_option linter.unusedVariables false
set_option linter.unusedSimpArgs false

/-- Arg's boxes within its loop over names. -/
structure PathI (N n : Nat) (w wr : World) (k : Int) (nm : ByteArray) (ap : Option Addr) (np cp : Nat) (i : Int) (s : ByteArray) (f : VF) (x : VD n) : Prop where
  chg : Chg [] w wr
  arg : Blk wr (w.heap.size + 1) 35 #[.int .i64 k, .string nm, .slice ap np cp, .int .i64 i, .string s]
  res : Blk wr (w.heap.size + 2) 26 (vCells 0 0 ⟨#[]⟩ none 0 0 none 0 0)
  val : Blk wr (w.heap.size + 3) 26 (vCells f.k f.i f.s f.a f.n f.c f.a2 f.n2 f.c2)
  is : IsV (lowN N) wr (n + 1) f.val x
  good : GoodD x
theorem pathR_cons {n : Nat} {p : List UInt8} {r : List (List UInt8)} {x y : VD n} (h : upD (fieldR x p) = (some y, 0)) : pathR (p :: r) x = pathR r y := by
  show (match upD (fieldR x p) with | (some x, 0) => pathR r x | (_, e) => (none, e)) = _
  rw [h]
  rfl
theorem pathR_err {n : Nat} {p : List UInt8} {r : List (List UInt8)} {x : VD n} {e : Int} (h : upD (fieldR x p) = (none, e)) : pathR (p :: r) x = (none, e) := by
  show (match upD (fieldR x p) with | (some x, 0) => pathR r x | (_, e) => (none, e)) = _
  rw [h]
set_option maxHeartbeats 2000000 in
set_option maxRecDepth 100000 in
theorem cArg_dot (n N : Nat) (r d : VF) (av : Option Addr) (nv cv : Nat) (nm : ByteArray) (ap : Option Addr) (path : List (List UInt8)) (cp : Nat) (i : Int) (s : ByteArray) (w : World) (dv : VD n) (hN : N ≤ w.heap.size) (hd : IsV (lowN N) w (n + 1) d.val dv) (gd : GoodD dv) (hP : StrsAt (lowN N) w ap path) (hpl : path.length ≤ 1048576) :
    Calls Tryz.prog 24 #[.agg (envCells r d av nv cv), .agg #[.int .i64 1, .string nm, .slice ap path.length cp, .int .i64 i, .string s]] w fun e w' => TellsR N n w (pathR path dv) e w' := by
  have HP := hide hP; have HD := hide hd; have HG := hide gd; have HPL := hide hpl; have HN := hide hN
  clear hP hd gd hN
  obtain ⟨kd, id, sd, ad, nd, cd, bd, md, ed⟩ := d
  go_enter Tryz.func24, Tryz.ntmps24
  go_wp2_with fail
  refine name_codeC fun W0 hW0 => ?_
  have HI : Hid (PathI N n w W0 1 nm ap path.length cp i s ⟨kd, id, sd, ad, nd, cd, bd, md, ed⟩ dv) := hide (by
    have C0 : Chg [] w W0 := by subst hW0; (repeat' (first | with_reducible exact Chg.refl _ _ | with_reducible refine Chg.alloc ?_ _ | with_reducible refine Chg.drew ?_ | with_reducible refine Chg.drewN ?_ _ | with_reducible refine Chg.set_ ?_ _ _ (by first | (simp; done) | (simp; omega) | omega)))
    exact ⟨C0, by subst hW0; (repeat' (first | with_reducible exact Blk.new_ (by first | rfl | (simp; done) | (simp; omega)) | with_reducible refine Blk.alloc_ ?_ | with_reducible refine Blk.drew ?_ | with_reducible refine Blk.drewN ?_ _ | with_reducible refine Blk.far_ ?_ (by first | (simp; done) | (simp; omega) | omega) | with_reducible apply Blk.set_eq | rfl)), by subst hW0; (repeat' (first | with_reducible exact Blk.new_ (by first | rfl | (simp; done) | (simp; omega)) | with_reducible refine Blk.alloc_ ?_ | with_reducible refine Blk.drew ?_ | with_reducible refine Blk.drewN ?_ _ | with_reducible refine Blk.far_ ?_ (by first | (simp; done) | (simp; omega) | omega) | with_reducible apply Blk.set_eq | rfl)), by subst hW0; (repeat' (first | with_reducible exact Blk.new_ (by first | rfl | (simp; done) | (simp; omega)) | with_reducible refine Blk.alloc_ ?_ | with_reducible refine Blk.drew ?_ | with_reducible refine Blk.drewN ?_ _ | with_reducible refine Blk.far_ ?_ (by first | (simp; done) | (simp; omega) | omega) | with_reducible apply Blk.set_eq | rfl)), isV_chg HD.out C0 (by intro x hx; cases hx), HG.out⟩)
  clear hW0
  go_loopw [9] (fun iv wr => ∃ (j : Nat) (f : VF) (x : VD n), iv = .int .i64 (j : Int) ∧ j ≤ path.length ∧ Hid (pathR path dv = pathR (path.drop j) x) ∧ Hid (PathI N n w wr 1 nm ap path.length cp i s f x)) (fun iv _ => path.length - (intOf iv).toNat)
  case atStart => exact ⟨0, _, dv, rfl, Nat.zero_le _, hide rfl, HI⟩
  case round =>
    obtain ⟨j, ⟨kx, ix, sx, ax, nx, cx, bx, mx, ex⟩, x, rfl, hjl, hq, hI⟩ := hrel
    clear HI
    have KA := hI.out.arg
    have KV := hI.out.val
    have hsw := hI.out.chg.size
    have hI0 : w.heap.size + 3 < wr.heap.size := KV.lt
    have k0 := KA.cell 0; have k1 := KA.cell 1; have k2 := KA.cell 2; have k3 := KA.cell 3; have k4 := KA.cell 4; simp at k0 k1 k2 k3 k4
    have v0 := KV.cell 0; have v1 := KV.cell 1; have v2 := KV.cell 2; have v3 := KV.cell 3; have v4 := KV.cell 4; simp at v0 v1 v2 v3 v4
    have lA := KA.lt
    have lV := KV.lt
    clear KA KV
    have hN9 := HN.out
    by_cases hlt : j < path.length
    · obtain ⟨p, hp⟩ : ∃ p, path[j]? = some p := ⟨_, List.getElem?_eq_getElem hlt⟩
      obtain ⟨b, off, rfl, hb, hu, hc⟩ := HP.out j p hp
      have hc := (cellB (hI.out.chg.block b hb (by simp)) _).trans hc
      have hbr := Nat.lt_of_lt_of_le hb hsw
      have hdr : path.drop j = p :: path.drop (j + 1) := by rw [List.drop_eq_getElem_cons hlt]; congr 1; rw [List.getElem?_eq_getElem hlt] at hp; injection hp
      have HDR := hide hdr
      have HLT := hide hlt
      have cF := hide (fun W (hW : Below wr.heap.size wr W) => refField_any n (lowN N) (lasts_N N) _ x p W (isV_bel hI.out.is hW) (small_of_mass _ _ hI.out.good.1))
      have hji : (j : Int) < (path.length : Int) := by omega
      have hj9 : j < 1048576 := by omega
      rcases field_fine hI.out.good p with ⟨y, hy, gy⟩ | ⟨E, hy, hE⟩
      · have cF1 : Hid (∀ W, Below wr.heap.size wr W → Calls Tryz.prog 39 #[.agg (vCells kx ix sx ax nx cx bx mx ex), .string ⟨p.toArray⟩] W fun e w' => ∃ f : VF, e = .returned (.tuple #[.agg (vCells f.k f.i f.s f.a f.n f.c f.a2 f.n2 f.c2), .int .i64 0]) ∧ IsV (lowN N) w' (n + 1) f.val y ∧ Below W.heap.size W w') := hide (by
          intro W hW
          refine (cF.out W hW).mono ?_
          rintro e w' ⟨v', rfl, ht, hb⟩
          have ht2 := tells_up ht
          rw [hy] at ht2
          have h2 : (fieldR x p).2 = 0 := congrArg Prod.snd hy
          obtain ⟨f, rfl⟩ := IsV.shape (show IsV (lowN N) w' (n + 1) v' y from ht2)
          exact ⟨f, by rw [h2], ht2, hb⟩)
        clear cF hp hu hdr hlt hjl
        go_wp2_with fail
        refine wp_region_held (S := fun W => Below wr.heap.size wr W) (by kernel_rfl) ?_
        change wpAnyH _ _ _ _ _ _ _ _ (World.drew _)
        have hD : Below wr.heap.size wr wr.drew := (Below.refl _ _).drew
        refine wpAnyH_take (i := 0) (v := .agg (vCells kx ix sx ax nx cx bx mx ex)) rfl (by kernel_rfl) (by kernel_rfl) (by kernel_rfl) (fun _ _ _ h => h) (Or.inl ⟨by rfl, by
          intro W hW
          have KV := hI.out.val.chg (Chg.of_below (S := []) hW) (by simp)
          have q0 := KV.cell 0; have q1 := KV.cell 1; have q2 := KV.cell 2; have q3 := KV.cell 3; have q4 := KV.cell 4; simp at q0 q1 q2 q3 q4
          clear KV
          go_simp⟩) hD ?_
        refine wpAnyH_take (i := 1) (v := .pointer (some ⟨w.heap.size + 1, 2, none⟩)) rfl (by kernel_rfl) (by kernel_rfl) (by kernel_rfl) (fun _ _ _ h => h) (Or.inl ⟨by rfl, by intro W hW; go_simp⟩) hD ?_
        refine wpAnyH_take (i := 2) (v := .slice (some ⟨b, off, none⟩) path.length cp) rfl (by kernel_rfl) (by kernel_rfl) (by kernel_rfl) (fun _ _ _ h => h) (Or.inl ⟨by rfl, by
          intro W hW
          have KA := hI.out.arg.chg (Chg.of_below (S := []) hW) (by simp)
          have q0 := KA.cell 0; have q1 := KA.cell 1; have q2 := KA.cell 2; have q3 := KA.cell 3; have q4 := KA.cell 4; simp at q0 q1 q2 q3 q4
          clear KA
          go_simp⟩) hD ?_
        refine wpAnyH_take (i := 3) (v := .int .i64 (j : Int)) rfl (by kernel_rfl) (by kernel_rfl) (by kernel_rfl) (fun _ _ _ h => h) (Or.inl ⟨by rfl, by intro W hW; go_simp⟩) hD ?_
        refine wpAnyH_take (i := 4) (v := .pointer (some ⟨b, off + j, none⟩)) rfl (by kernel_rfl) (by kernel_rfl) (by kernel_rfl) (fun _ _ _ h => h) (Or.inl ⟨by rfl, by intro W hW; go_simp⟩) hD ?_
        refine wpAnyH_take (i := 5) (v := .string ⟨p.toArray⟩) rfl (by kernel_rfl) (by kernel_rfl) (by kernel_rfl) (fun _ _ _ h => h) (Or.inl ⟨by rfl, by
          intro W hW
          have q0 := (cellB (hW.block b hbr) _).trans hc
          go_simp⟩) hD ?_
        refine wpAnyH_all (rs := [6, 10]) (by kernel_rfl) (by simp) ?_
        intro i0 hi0
        simp only [List.mem_cons, List.mem_nil_iff, or_false] at hi0
        rcases hi0 with rfl | rfl
        · refine wpOp_enter 39 #[.agg (vCells kx ix sx ax nx cx bx mx ex), .string ⟨p.toArray⟩] rfl (by rfl) (by go_simp) ?_
          refine (cF1.out _ hD).mono ?_
          rintro e w1 ⟨⟨kf, jf, sf, af, nf, cf, bf, mf, ef⟩, rfl, hv, hb1⟩
          have hB1 := below_step hD hb1
          refine ⟨_, rfl, hB1, ?_⟩
          refine wpAnyH_take (i := 7) (v := .tuple #[.agg (vCells kf jf sf af nf cf bf mf ef), .int .i64 0]) rfl (by kernel_rfl) (by kernel_rfl) (by kernel_rfl) (fun _ _ _ h => h) (Or.inl ⟨by rfl, by intro W hW; go_simp⟩) hB1 ?_
          refine wpAnyH_take (i := 8) (v := .agg (vCells kf jf sf af nf cf bf mf ef)) rfl (by kernel_rfl) (by kernel_rfl) (by kernel_rfl) (fun _ _ _ h => h) (Or.inl ⟨by rfl, by intro W hW; go_simp⟩) hB1 ?_
          refine wpAnyH_take (i := 9) (v := .int .i64 0) rfl (by kernel_rfl) (by kernel_rfl) (by kernel_rfl) (fun _ _ _ h => h) (Or.inl ⟨by rfl, by intro W hW; go_simp⟩) hB1 ?_
          refine wpAnyH_all (rs := [10]) (by kernel_rfl) (by simp) ?_
          intro i0 hi0
          simp only [List.mem_cons, List.mem_nil_iff, or_false] at hi0
          subst hi0
          obtain ⟨w2, hw2⟩ : ∃ w2, w1.alloc (.cells (vCells 0 0 ⟨#[]⟩ none 0 0 none 0 0) 26) = w2 := ⟨_, rfl⟩
          have hb2 : Below w1.heap.size w1 w2 := by rw [← hw2]; exact (Below.refl _ _).alloc (Nat.le_refl _) _
          have hB2 := below_step hB1 hb2
          have KZ : Blk w2 w1.heap.size 26 (vCells 0 0 ⟨#[]⟩ none 0 0 none 0 0) := by rw [← hw2]; exact Blk.new w1 _ _
          refine wpOp_does (v := .pointer (some ⟨w1.heap.size, 0, none⟩)) (w' := w2) rfl (by rfl) (by rw [← hw2]; go_simp) ⟨hB2, ?_⟩
          clear hw2
          have hv := isV_bel hv hb2
          have hg : wr.heap.size ≤ w1.heap.size := hB1.size
          obtain ⟨g, hgd⟩ : ∃ g, w1.heap.size = g := ⟨_, rfl⟩
          rw [hgd] at KZ hg
          rw [hgd]
          clear hgd hb1 hb2 hB1
          have hNg : N ≤ g := by omega
          obtain ⟨W3, hW3⟩ : ∃ W3, set5 w2 g (.int .i64 kf) (.int .i64 jf) (.string sf) (.slice af nf cf) (.slice bf mf ef) = W3 := ⟨_, rfl⟩
          have C3 : Chg [g] w2 W3 := by rw [← hW3]; unfold set5; (repeat' (first | with_reducible exact Chg.refl _ _ | with_reducible refine Chg.alloc ?_ _ | with_reducible refine Chg.drew ?_ | with_reducible refine Chg.drewN ?_ _ | with_reducible refine Chg.set_ ?_ _ _ (by first | (simp; done) | (simp; omega) | omega)))
          have K10 : Blk W3 g 26 (vCells kf jf sf af nf cf bf mf ef) := by rw [← hW3]; exact set5_blk KZ _ _ _ _ _
          have hB3 : Below wr.heap.size wr W3 := by
            skip
            exact (((Chg.of_below (S := []) hB2).mono (S' := [g]) (by simp)).trans C3 (by simp)).to_below (Nat.le_refl _) (by intro x hx; simp at hx; omega)
          refine wpAnyH_all (rs := [11]) (by kernel_rfl) (by simp) ?_
          intro i0 hi0
          simp only [List.mem_cons, List.mem_nil_iff, or_false] at hi0
          subst hi0
          refine wpOp_skips (w' := W3) rfl (by rfl) (by
            rw [← hW3]
            clear hW3 K10 C3 hB3
            have q0 := KZ.cell 0; have q1 := KZ.cell 1; have q2 := KZ.cell 2; have q3 := KZ.cell 3; have q4 := KZ.cell 4; simp at q0 q1 q2 q3 q4
            have y0 := KZ.frozen 0; have y1 := KZ.frozen 1; have y2 := KZ.frozen 2; have y3 := KZ.frozen 3; have y4 := KZ.frozen 4
            have lz := KZ.lt
            clear KZ
            go_simp) ⟨hB3, ?_⟩
          refine wpAnyH_take (i := 12) (v := .int .i64 0) rfl (by kernel_rfl) (by kernel_rfl) (by kernel_rfl) (fun _ _ _ h => h) (Or.inl ⟨by rfl, by intro W hW; go_simp⟩) hB3 ?_
          refine wpAnyH_done (by kernel_rfl) ?_ _
          have hv3 := isV_chg hv C3 (by intro x hx; simp at hx; subst hx; exact hNg)
          clear hv
          clear hW3 C3 KZ hB2 hD
          have hB := hide hB3
          have hI3 : Hid (PathI N n w W3 1 nm (some ⟨b, off, none⟩) path.length cp i s ⟨kx, ix, sx, ax, nx, cx, bx, mx, ex⟩ x) := hide ⟨hI.out.chg.below hB3, hI.out.arg.chg (Chg.of_below (S := []) hB3) (by simp), hI.out.res.chg (Chg.of_below (S := []) hB3) (by simp), hI.out.val.chg (Chg.of_below (S := []) hB3) (by simp), isV_bel hI.out.is hB3, hI.out.good⟩
          clear hB3 hI k0 k1 k2 k3 k4 v0 v1 v2 v3 v4 lA lV
          have hne : w.heap.size + 3 ≠ g := by have := hsw; have := hI0; omega
          have KV3 := hI3.out.val
          have HK10 := hide K10
          have lV := KV3.lt
          have lG := K10.lt
          have q0 := K10.cell 0; have q1 := K10.cell 1; have q2 := K10.cell 2; have q3 := K10.cell 3; have q4 := K10.cell 4; simp at q0 q1 q2 q3 q4
          have v0 := KV3.cell 0; have v1 := KV3.cell 1; have v2 := KV3.cell 2; have v3 := KV3.cell 3; have v4 := KV3.cell 4; simp at v0 v1 v2 v3 v4
          have y0 := KV3.frozen 0; have y1 := KV3.frozen 1; have y2 := KV3.frozen 2; have y3 := KV3.frozen 3; have y4 := KV3.frozen 4
          clear KV3 K10
          go_wp2_with fail
          have hlt := HLT.out
          go_roundw
          case rel =>
            refine ⟨j + 1, ⟨kf, jf, sf, af, nf, cf, bf, mf, ef⟩, y, by go_num, by omega, hide (by rw [hq.out, HDR.out]; exact pathR_cons hy), ?_⟩
            refine name_it (C := fun W4 => Hid (PathI N n w W4 1 nm (some ⟨b, off, none⟩) path.length cp i s ⟨kf, jf, sf, af, nf, cf, bf, mf, ef⟩ y)) fun W4 hW4 => ?_
            have C4 : Chg [w.heap.size + 3] W3 W4 := by subst hW4; (repeat' (first | with_reducible exact Chg.refl _ _ | with_reducible refine Chg.alloc ?_ _ | with_reducible refine Chg.drew ?_ | with_reducible refine Chg.drewN ?_ _ | with_reducible refine Chg.set_ ?_ _ _ (by first | (simp; done) | (simp; omega) | omega)))
            have KV4 : Blk W4 (w.heap.size + 3) 26 (vCells kf jf sf af nf cf bf mf ef) := by subst hW4; (repeat' (first | with_reducible exact hI3.out.val | with_reducible exact Blk.new_ (by first | rfl | (simp; done) | (simp; omega)) | with_reducible refine Blk.alloc_ ?_ | with_reducible refine Blk.drew ?_ | with_reducible refine Blk.drewN ?_ _ | with_reducible refine Blk.far_ ?_ (by first | (simp; done) | (simp; omega) | omega) | with_reducible apply Blk.set_eq | rfl))
            clear hW4
            refine hide ⟨?_, hI3.out.arg.chg C4 (by simp), hI3.out.res.chg C4 (by simp), KV4, isV_chg hv3 C4 (by intro x hx; simp at hx; have := HN.out; omega), gy⟩
            exact ((hI3.out.chg.mono (S' := [w.heap.size + 3]) (by simp)).trans C4 (by simp)).mono (by intro x hx; simp at hx; subst hx; exact .inr (by omega))
          case measure => simp [intOf]; omega
        · obtain ⟨w1, hw1⟩ : ∃ w1, wr.drew.alloc (.cells (vCells 0 0 ⟨#[]⟩ none 0 0 none 0 0) 26) = w1 := ⟨_, rfl⟩
          have hB1 : Below wr.heap.size wr w1 := by rw [← hw1]; exact hD.alloc (Nat.le_refl _) _
          have KZ : Blk w1 wr.heap.size 26 (vCells 0 0 ⟨#[]⟩ none 0 0 none 0 0) := by rw [← hw1]; exact Blk.new wr.drew _ _
          refine wpOp_does (v := .pointer (some ⟨wr.heap.size, 0, none⟩)) (w' := w1) rfl (by rfl) (by rw [← hw1]; go_simp) ⟨hB1, ?_⟩
          clear hw1
          refine wpAnyH_all (rs := [6]) (by kernel_rfl) (by simp) ?_
          intro i0 hi0
          simp only [List.mem_cons, List.mem_nil_iff, or_false] at hi0
          subst hi0
          refine wpOp_enter 39 #[.agg (vCells kx ix sx ax nx cx bx mx ex), .string ⟨p.toArray⟩] rfl (by rfl) (by go_simp) ?_
          refine (cF1.out _ hB1).mono ?_
          rintro e w2 ⟨⟨kf, jf, sf, af, nf, cf, bf, mf, ef⟩, rfl, hv, hb1⟩
          have hB2 := below_step hB1 hb1
          refine ⟨_, rfl, hB2, ?_⟩
          have KZ := KZ.chg (Chg.of_below (S := []) hb1) (by simp)
          have hg : wr.heap.size ≤ wr.heap.size := Nat.le_refl _
          obtain ⟨g, hgd⟩ : ∃ g, wr.heap.size = g := ⟨_, rfl⟩
          rw [hgd] at KZ hB2 hD
          have hg : wr.heap.size ≤ g := by omega
          rw [hgd]
          clear hb1 hB1
          have hNg : N ≤ g := by omega
          refine wpAnyH_take (i := 7) (v := .tuple #[.agg (vCells kf jf sf af nf cf bf mf ef), .int .i64 0]) rfl (by kernel_rfl) (by kernel_rfl) (by kernel_rfl) (fun _ _ _ h => h) (Or.inl ⟨by rfl, by intro W hW; go_simp⟩) hB2 ?_
          refine wpAnyH_take (i := 8) (v := .agg (vCells kf jf sf af nf cf bf mf ef)) rfl (by kernel_rfl) (by kernel_rfl) (by kernel_rfl) (fun _ _ _ h => h) (Or.inl ⟨by rfl, by intro W hW; go_simp⟩) hB2 ?_
          refine wpAnyH_take (i := 9) (v := .int .i64 0) rfl (by kernel_rfl) (by kernel_rfl) (by kernel_rfl) (fun _ _ _ h => h) (Or.inl ⟨by rfl, by intro W hW; go_simp⟩) hB2 ?_
          obtain ⟨W3, hW3⟩ : ∃ W3, set5 w2 g (.int .i64 kf) (.int .i64 jf) (.string sf) (.slice af nf cf) (.slice bf mf ef) = W3 := ⟨_, rfl⟩
          have C3 : Chg [g] w2 W3 := by rw [← hW3]; unfold set5; (repeat' (first | with_reducible exact Chg.refl _ _ | with_reducible refine Chg.alloc ?_ _ | with_reducible refine Chg.drew ?_ | with_reducible refine Chg.drewN ?_ _ | with_reducible refine Chg.set_ ?_ _ _ (by first | (simp; done) | (simp; omega) | omega)))
          have K10 : Blk W3 g 26 (vCells kf jf sf af nf cf bf mf ef) := by rw [← hW3]; exact set5_blk KZ _ _ _ _ _
          have hB3 : Below g wr W3 := by
            rw [← hgd] at hB2 ⊢
            exact (((Chg.of_below (S := []) hB2).mono (S' := [g]) (by simp)).trans C3 (by simp)).to_below (Nat.le_refl _) (by intro x hx; simp at hx; omega)
          refine wpAnyH_all (rs := [11]) (by kernel_rfl) (by simp) ?_
          intro i0 hi0
          simp only [List.mem_cons, List.mem_nil_iff, or_false] at hi0
          subst hi0
          refine wpOp_skips (w' := W3) rfl (by rfl) (by
            rw [← hW3]
            clear hW3 K10 C3 hB3
            have q0 := KZ.cell 0; have q1 := KZ.cell 1; have q2 := KZ.cell 2; have q3 := KZ.cell 3; have q4 := KZ.cell 4; simp at q0 q1 q2 q3 q4
            have y0 := KZ.frozen 0; have y1 := KZ.frozen 1; have y2 := KZ.frozen 2; have y3 := KZ.frozen 3; have y4 := KZ.frozen 4
            have lz := KZ.lt
            clear KZ
            go_simp) ⟨hB3, ?_⟩
          refine wpAnyH_take (i := 12) (v := .int .i64 0) rfl (by kernel_rfl) (by kernel_rfl) (by kernel_rfl) (fun _ _ _ h => h) (Or.inl ⟨by rfl, by intro W hW; go_simp⟩) hB3 ?_
          refine wpAnyH_done (by kernel_rfl) ?_ _
          have hv3 := isV_chg hv C3 (by intro x hx; simp at hx; subst hx; exact hNg)
          clear hv
          clear hW3 C3 KZ hB2 hD
          rw [← hgd] at hB3
          clear hgd
          have hB := hide hB3
          have hI3 : Hid (PathI N n w W3 1 nm (some ⟨b, off, none⟩) path.length cp i s ⟨kx, ix, sx, ax, nx, cx, bx, mx, ex⟩ x) := hide ⟨hI.out.chg.below hB3, hI.out.arg.chg (Chg.of_below (S := []) hB3) (by simp), hI.out.res.chg (Chg.of_below (S := []) hB3) (by simp), hI.out.val.chg (Chg.of_below (S := []) hB3) (by simp), isV_bel hI.out.is hB3, hI.out.good⟩
          clear hB3 hI k0 k1 k2 k3 k4 v0 v1 v2 v3 v4 lA lV
          have hne : w.heap.size + 3 ≠ g := by have := hsw; have := hI0; omega
          have KV3 := hI3.out.val
          have HK10 := hide K10
          have lV := KV3.lt
          have lG := K10.lt
          have q0 := K10.cell 0; have q1 := K10.cell 1; have q2 := K10.cell 2; have q3 := K10.cell 3; have q4 := K10.cell 4; simp at q0 q1 q2 q3 q4
          have v0 := KV3.cell 0; have v1 := KV3.cell 1; have v2 := KV3.cell 2; have v3 := KV3.cell 3; have v4 := KV3.cell 4; simp at v0 v1 v2 v3 v4
          have y0 := KV3.frozen 0; have y1 := KV3.frozen 1; have y2 := KV3.frozen 2; have y3 := KV3.frozen 3; have y4 := KV3.frozen 4
          clear KV3 K10
          go_wp2_with fail
          have hlt := HLT.out
          go_roundw
          case rel =>
            refine ⟨j + 1, ⟨kf, jf, sf, af, nf, cf, bf, mf, ef⟩, y, by go_num, by omega, hide (by rw [hq.out, HDR.out]; exact pathR_cons hy), ?_⟩
            refine name_it (C := fun W4 => Hid (PathI N n w W4 1 nm (some ⟨b, off, none⟩) path.length cp i s ⟨kf, jf, sf, af, nf, cf, bf, mf, ef⟩ y)) fun W4 hW4 => ?_
            have C4 : Chg [w.heap.size + 3] W3 W4 := by subst hW4; (repeat' (first | with_reducible exact Chg.refl _ _ | with_reducible refine Chg.alloc ?_ _ | with_reducible refine Chg.drew ?_ | with_reducible refine Chg.drewN ?_ _ | with_reducible refine Chg.set_ ?_ _ _ (by first | (simp; done) | (simp; omega) | omega)))
            have KV4 : Blk W4 (w.heap.size + 3) 26 (vCells kf jf sf af nf cf bf mf ef) := by subst hW4; (repeat' (first | with_reducible exact hI3.out.val | with_reducible exact Blk.new_ (by first | rfl | (simp; done) | (simp; omega)) | with_reducible refine Blk.alloc_ ?_ | with_reducible refine Blk.drew ?_ | with_reducible refine Blk.drewN ?_ _ | with_reducible refine Blk.far_ ?_ (by first | (simp; done) | (simp; omega) | omega) | with_reducible apply Blk.set_eq | rfl))
            clear hW4
            refine hide ⟨?_, hI3.out.arg.chg C4 (by simp), hI3.out.res.chg C4 (by simp), KV4, isV_chg hv3 C4 (by intro x hx; simp at hx; have := HN.out; omega), gy⟩
            exact ((hI3.out.chg.mono (S' := [w.heap.size + 3]) (by simp)).trans C4 (by simp)).mono (by intro x hx; simp at hx; subst hx; exact .inr (by omega))
          case measure => simp [intOf]; omega
      · have cF1 : Hid (∀ W, Below wr.heap.size wr W → Calls Tryz.prog 39 #[.agg (vCells kx ix sx ax nx cx bx mx ex), .string ⟨p.toArray⟩] W fun e w' => e = .returned (.tuple #[.agg (vCells 0 0 ⟨#[]⟩ none 0 0 none 0 0), .int .i64 E]) ∧ Below W.heap.size W w') := hide (by
          intro W hW
          refine (cF.out W hW).mono ?_
          rintro e w' ⟨v', rfl, ht, hb⟩
          have ht2 := tells_up ht
          rw [hy] at ht2
          have h2 : (fieldR x p).2 = E := congrArg Prod.snd hy
          have ht3 : v' = zeroV := ht2
          subst ht3
          exact ⟨by rw [h2]; rfl, hb⟩)
        have eE : (E == 0) = false := by simpa using hE
        clear cF hp hu hdr hlt hjl hE
        go_wp2_with fail
        refine wp_region_held (S := fun W => Below wr.heap.size wr W) (by kernel_rfl) ?_
        change wpAnyH _ _ _ _ _ _ _ _ (World.drew _)
        have hD : Below wr.heap.size wr wr.drew := (Below.refl _ _).drew
        refine wpAnyH_take (i := 0) (v := .agg (vCells kx ix sx ax nx cx bx mx ex)) rfl (by kernel_rfl) (by kernel_rfl) (by kernel_rfl) (fun _ _ _ h => h) (Or.inl ⟨by rfl, by
          intro W hW
          have KV := hI.out.val.chg (Chg.of_below (S := []) hW) (by simp)
          have q0 := KV.cell 0; have q1 := KV.cell 1; have q2 := KV.cell 2; have q3 := KV.cell 3; have q4 := KV.cell 4; simp at q0 q1 q2 q3 q4
          clear KV
          go_simp⟩) hD ?_
        refine wpAnyH_take (i := 1) (v := .pointer (some ⟨w.heap.size + 1, 2, none⟩)) rfl (by kernel_rfl) (by kernel_rfl) (by kernel_rfl) (fun _ _ _ h => h) (Or.inl ⟨by rfl, by intro W hW; go_simp⟩) hD ?_
        refine wpAnyH_take (i := 2) (v := .slice (some ⟨b, off, none⟩) path.length cp) rfl (by kernel_rfl) (by kernel_rfl) (by kernel_rfl) (fun _ _ _ h => h) (Or.inl ⟨by rfl, by
          intro W hW
          have KA := hI.out.arg.chg (Chg.of_below (S := []) hW) (by simp)
          have q0 := KA.cell 0; have q1 := KA.cell 1; have q2 := KA.cell 2; have q3 := KA.cell 3; have q4 := KA.cell 4; simp at q0 q1 q2 q3 q4
          clear KA
          go_simp⟩) hD ?_
        refine wpAnyH_take (i := 3) (v := .int .i64 (j : Int)) rfl (by kernel_rfl) (by kernel_rfl) (by kernel_rfl) (fun _ _ _ h => h) (Or.inl ⟨by rfl, by intro W hW; go_simp⟩) hD ?_
        refine wpAnyH_take (i := 4) (v := .pointer (some ⟨b, off + j, none⟩)) rfl (by kernel_rfl) (by kernel_rfl) (by kernel_rfl) (fun _ _ _ h => h) (Or.inl ⟨by rfl, by intro W hW; go_simp⟩) hD ?_
        refine wpAnyH_take (i := 5) (v := .string ⟨p.toArray⟩) rfl (by kernel_rfl) (by kernel_rfl) (by kernel_rfl) (fun _ _ _ h => h) (Or.inl ⟨by rfl, by
          intro W hW
          have q0 := (cellB (hW.block b hbr) _).trans hc
          go_simp⟩) hD ?_
        refine wpAnyH_all (rs := [6, 10]) (by kernel_rfl) (by simp) ?_
        intro i0 hi0
        simp only [List.mem_cons, List.mem_nil_iff, or_false] at hi0
        rcases hi0 with rfl | rfl
        · refine wpOp_enter 39 #[.agg (vCells kx ix sx ax nx cx bx mx ex), .string ⟨p.toArray⟩] rfl (by rfl) (by go_simp) ?_
          refine (cF1.out _ hD).mono ?_
          rintro e w1 ⟨rfl, hb1⟩
          have hB1 := below_step hD hb1
          refine ⟨_, rfl, hB1, ?_⟩
          refine wpAnyH_take (i := 7) (v := .tuple #[.agg (vCells 0 0 ⟨#[]⟩ none 0 0 none 0 0), .int .i64 E]) rfl (by kernel_rfl) (by kernel_rfl) (by kernel_rfl) (fun _ _ _ h => h) (Or.inl ⟨by rfl, by intro W hW; go_simp⟩) hB1 ?_
          refine wpAnyH_take (i := 8) (v := .agg (vCells 0 0 ⟨#[]⟩ none 0 0 none 0 0)) rfl (by kernel_rfl) (by kernel_rfl) (by kernel_rfl) (fun _ _ _ h => h) (Or.inl ⟨by rfl, by intro W hW; go_simp⟩) hB1 ?_
          refine wpAnyH_take (i := 9) (v := .int .i64 E) rfl (by kernel_rfl) (by kernel_rfl) (by kernel_rfl) (fun _ _ _ h => h) (Or.inl ⟨by rfl, by intro W hW; go_simp⟩) hB1 ?_
          refine wpAnyH_all (rs := [10]) (by kernel_rfl) (by simp) ?_
          intro i0 hi0
          simp only [List.mem_cons, List.mem_nil_iff, or_false] at hi0
          subst hi0
          obtain ⟨w2, hw2⟩ : ∃ w2, w1.alloc (.cells (vCells 0 0 ⟨#[]⟩ none 0 0 none 0 0) 26) = w2 := ⟨_, rfl⟩
          have hb2 : Below w1.heap.size w1 w2 := by rw [← hw2]; exact (Below.refl _ _).alloc (Nat.le_refl _) _
          have hB2 := below_step hB1 hb2
          have KZ : Blk w2 w1.heap.size 26 (vCells 0 0 ⟨#[]⟩ none 0 0 none 0 0) := by rw [← hw2]; exact Blk.new w1 _ _
          refine wpOp_does (v := .pointer (some ⟨w1.heap.size, 0, none⟩)) (w' := w2) rfl (by rfl) (by rw [← hw2]; go_simp) ⟨hB2, ?_⟩
          clear hw2
          have hg : wr.heap.size ≤ w1.heap.size := hB1.size
          obtain ⟨g, hgd⟩ : ∃ g, w1.heap.size = g := ⟨_, rfl⟩
          rw [hgd] at KZ hg
          rw [hgd]
          clear hgd hb1 hb2 hB1
          have hNg : N ≤ g := by omega
          obtain ⟨W3, hW3⟩ : ∃ W3, set5 w2 g (.int .i64 0) (.int .i64 0) (.string ⟨#[]⟩) (.slice none 0 0) (.slice none 0 0) = W3 := ⟨_, rfl⟩
          have C3 : Chg [g] w2 W3 := by rw [← hW3]; unfold set5; (repeat' (first | with_reducible exact Chg.refl _ _ | with_reducible refine Chg.alloc ?_ _ | with_reducible refine Chg.drew ?_ | with_reducible refine Chg.drewN ?_ _ | with_reducible refine Chg.set_ ?_ _ _ (by first | (simp; done) | (simp; omega) | omega)))
          have K10 : Blk W3 g 26 (vCells 0 0 ⟨#[]⟩ none 0 0 none 0 0) := by rw [← hW3]; exact set5_blk KZ _ _ _ _ _
          have hB3 : Below wr.heap.size wr W3 := by
            skip
            exact (((Chg.of_below (S := []) hB2).mono (S' := [g]) (by simp)).trans C3 (by simp)).to_below (Nat.le_refl _) (by intro x hx; simp at hx; omega)
          refine wpAnyH_all (rs := [11]) (by kernel_rfl) (by simp) ?_
          intro i0 hi0
          simp only [List.mem_cons, List.mem_nil_iff, or_false] at hi0
          subst hi0
          refine wpOp_skips (w' := W3) rfl (by rfl) (by
            rw [← hW3]
            clear hW3 K10 C3 hB3
            have q0 := KZ.cell 0; have q1 := KZ.cell 1; have q2 := KZ.cell 2; have q3 := KZ.cell 3; have q4 := KZ.cell 4; simp at q0 q1 q2 q3 q4
            have y0 := KZ.frozen 0; have y1 := KZ.frozen 1; have y2 := KZ.frozen 2; have y3 := KZ.frozen 3; have y4 := KZ.frozen 4
            have lz := KZ.lt
            clear KZ
            go_simp) ⟨hB3, ?_⟩
          refine wpAnyH_take (i := 12) (v := .int .i64 E) rfl (by kernel_rfl) (by kernel_rfl) (by kernel_rfl) (fun _ _ _ h => h) (Or.inl ⟨by rfl, by intro W hW; go_simp⟩) hB3 ?_
          refine wpAnyH_done (by kernel_rfl) ?_ _
          clear hW3 C3 KZ hB2 hD
          have KR3 := hI.out.res.chg (Chg.of_below (S := []) hB3) (by simp)
          have HC3 := hide (hI.out.chg.below hB3)
          have hne : w.heap.size + 2 ≠ g := by have := hsw; have := hI0; omega
          have HR3 := hide KR3
          have lR := KR3.lt
          have lG := K10.lt
          have q0 := KR3.cell 0; have q1 := KR3.cell 1; have q2 := KR3.cell 2; have q3 := KR3.cell 3; have q4 := KR3.cell 4; simp at q0 q1 q2 q3 q4
          have y0 := KR3.frozen 0; have y1 := KR3.frozen 1; have y2 := KR3.frozen 2; have y3 := KR3.frozen 3; have y4 := KR3.frozen 4
          clear KR3 K10 k0 k1 k2 k3 k4 v0 v1 v2 v3 v4 lA lV
          go_wp2_with fail
          refine name_postO fun W4 hW4 => ?_
          have C4 : Chg [w.heap.size + 2] W3 W4 := by subst hW4; (repeat' (first | with_reducible exact Chg.refl _ _ | with_reducible refine Chg.alloc ?_ _ | with_reducible refine Chg.drew ?_ | with_reducible refine Chg.drewN ?_ _ | with_reducible refine Chg.set_ ?_ _ _ (by first | (simp; done) | (simp; omega) | omega)))
          have KR4 : Blk W4 (w.heap.size + 2) 26 (vCells 0 0 ⟨#[]⟩ none 0 0 none 0 0) := by subst hW4; (repeat' (first | with_reducible exact HR3.out | with_reducible exact Blk.new_ (by first | rfl | (simp; done) | (simp; omega)) | with_reducible refine Blk.alloc_ ?_ | with_reducible refine Blk.drew ?_ | with_reducible refine Blk.drewN ?_ _ | with_reducible refine Blk.far_ ?_ (by first | (simp; done) | (simp; omega) | omega) | with_reducible apply Blk.set_eq | rfl))
          clear hW4 q0 q1 q2 q3 q4 y0 y1 y2 y3 y4
          have k0 := KR4.cell 0; have k1 := KR4.cell 1; have k2 := KR4.cell 2; have k3 := KR4.cell 3; have k4 := KR4.cell 4; simp at k0 k1 k2 k3 k4
          clear KR4
          simp [bodyPost, results, Tryz.results24, go_sem, k0, k1, k2, k3, k4]
          rw [hq.out, HDR.out, pathR_err hy]
          refine ⟨_, rfl, rfl, (((HC3.out.mono (S' := [w.heap.size + 2]) (by simp)).trans C4 (by simp)).mono (S' := []) (by intro x hx; simp at hx; subst hx; exact .inr (by omega))).bel⟩
        · obtain ⟨w1, hw1⟩ : ∃ w1, wr.drew.alloc (.cells (vCells 0 0 ⟨#[]⟩ none 0 0 none 0 0) 26) = w1 := ⟨_, rfl⟩
          have hB1 : Below wr.heap.size wr w1 := by rw [← hw1]; exact hD.alloc (Nat.le_refl _) _
          have KZ : Blk w1 wr.heap.size 26 (vCells 0 0 ⟨#[]⟩ none 0 0 none 0 0) := by rw [← hw1]; exact Blk.new wr.drew _ _
          refine wpOp_does (v := .pointer (some ⟨wr.heap.size, 0, none⟩)) (w' := w1) rfl (by rfl) (by rw [← hw1]; go_simp) ⟨hB1, ?_⟩
          clear hw1
          refine wpAnyH_all (rs := [6]) (by kernel_rfl) (by simp) ?_
          intro i0 hi0
          simp only [List.mem_cons, List.mem_nil_iff, or_false] at hi0
          subst hi0
          refine wpOp_enter 39 #[.agg (vCells kx ix sx ax nx cx bx mx ex), .string ⟨p.toArray⟩] rfl (by rfl) (by go_simp) ?_
          refine (cF1.out _ hB1).mono ?_
          rintro e w2 ⟨rfl, hb1⟩
          have hB2 := below_step hB1 hb1
          refine ⟨_, rfl, hB2, ?_⟩
          have KZ := KZ.chg (Chg.of_below (S := []) hb1) (by simp)
          have hg : wr.heap.size ≤ wr.heap.size := Nat.le_refl _
          obtain ⟨g, hgd⟩ : ∃ g, wr.heap.size = g := ⟨_, rfl⟩
          rw [hgd] at KZ hB2 hD
          have hg : wr.heap.size ≤ g := by omega
          rw [hgd]
          clear hb1 hB1
          have hNg : N ≤ g := by omega
          refine wpAnyH_take (i := 7) (v := .tuple #[.agg (vCells 0 0 ⟨#[]⟩ none 0 0 none 0 0), .int .i64 E]) rfl (by kernel_rfl) (by kernel_rfl) (by kernel_rfl) (fun _ _ _ h => h) (Or.inl ⟨by rfl, by intro W hW; go_simp⟩) hB2 ?_
          refine wpAnyH_take (i := 8) (v := .agg (vCells 0 0 ⟨#[]⟩ none 0 0 none 0 0)) rfl (by kernel_rfl) (by kernel_rfl) (by kernel_rfl) (fun _ _ _ h => h) (Or.inl ⟨by rfl, by intro W hW; go_simp⟩) hB2 ?_
          refine wpAnyH_take (i := 9) (v := .int .i64 E) rfl (by kernel_rfl) (by kernel_rfl) (by kernel_rfl) (fun _ _ _ h => h) (Or.inl ⟨by rfl, by intro W hW; go_simp⟩) hB2 ?_
          obtain ⟨W3, hW3⟩ : ∃ W3, set5 w2 g (.int .i64 0) (.int .i64 0) (.string ⟨#[]⟩) (.slice none 0 0) (.slice none 0 0) = W3 := ⟨_, rfl⟩
          have C3 : Chg [g] w2 W3 := by rw [← hW3]; unfold set5; (repeat' (first | with_reducible exact Chg.refl _ _ | with_reducible refine Chg.alloc ?_ _ | with_reducible refine Chg.drew ?_ | with_reducible refine Chg.drewN ?_ _ | with_reducible refine Chg.set_ ?_ _ _ (by first | (simp; done) | (simp; omega) | omega)))
          have K10 : Blk W3 g 26 (vCells 0 0 ⟨#[]⟩ none 0 0 none 0 0) := by rw [← hW3]; exact set5_blk KZ _ _ _ _ _
          have hB3 : Below g wr W3 := by
            rw [← hgd] at hB2 ⊢
            exact (((Chg.of_below (S := []) hB2).mono (S' := [g]) (by simp)).trans C3 (by simp)).to_below (Nat.le_refl _) (by intro x hx; simp at hx; omega)
          refine wpAnyH_all (rs := [11]) (by kernel_rfl) (by simp) ?_
          intro i0 hi0
          simp only [List.mem_cons, List.mem_nil_iff, or_false] at hi0
          subst hi0
          refine wpOp_skips (w' := W3) rfl (by rfl) (by
            rw [← hW3]
            clear hW3 K10 C3 hB3
            have q0 := KZ.cell 0; have q1 := KZ.cell 1; have q2 := KZ.cell 2; have q3 := KZ.cell 3; have q4 := KZ.cell 4; simp at q0 q1 q2 q3 q4
            have y0 := KZ.frozen 0; have y1 := KZ.frozen 1; have y2 := KZ.frozen 2; have y3 := KZ.frozen 3; have y4 := KZ.frozen 4
            have lz := KZ.lt
            clear KZ
            go_simp) ⟨hB3, ?_⟩
          refine wpAnyH_take (i := 12) (v := .int .i64 E) rfl (by kernel_rfl) (by kernel_rfl) (by kernel_rfl) (fun _ _ _ h => h) (Or.inl ⟨by rfl, by intro W hW; go_simp⟩) hB3 ?_
          refine wpAnyH_done (by kernel_rfl) ?_ _
          clear hW3 C3 KZ hB2 hD
          rw [← hgd] at hB3
          clear hgd
          have KR3 := hI.out.res.chg (Chg.of_below (S := []) hB3) (by simp)
          have HC3 := hide (hI.out.chg.below hB3)
          have hne : w.heap.size + 2 ≠ g := by have := hsw; have := hI0; omega
          have HR3 := hide KR3
          have lR := KR3.lt
          have lG := K10.lt
          have q0 := KR3.cell 0; have q1 := KR3.cell 1; have q2 := KR3.cell 2; have q3 := KR3.cell 3; have q4 := KR3.cell 4; simp at q0 q1 q2 q3 q4
          have y0 := KR3.frozen 0; have y1 := KR3.frozen 1; have y2 := KR3.frozen 2; have y3 := KR3.frozen 3; have y4 := KR3.frozen 4
          clear KR3 K10 k0 k1 k2 k3 k4 v0 v1 v2 v3 v4 lA lV
          go_wp2_with fail
          refine name_postO fun W4 hW4 => ?_
          have C4 : Chg [w.heap.size + 2] W3 W4 := by subst hW4; (repeat' (first | with_reducible exact Chg.refl _ _ | with_reducible refine Chg.alloc ?_ _ | with_reducible refine Chg.drew ?_ | with_reducible refine Chg.drewN ?_ _ | with_reducible refine Chg.set_ ?_ _ _ (by first | (simp; done) | (simp; omega) | omega)))
          have KR4 : Blk W4 (w.heap.size + 2) 26 (vCells 0 0 ⟨#[]⟩ none 0 0 none 0 0) := by subst hW4; (repeat' (first | with_reducible exact HR3.out | with_reducible exact Blk.new_ (by first | rfl | (simp; done) | (simp; omega)) | with_reducible refine Blk.alloc_ ?_ | with_reducible refine Blk.drew ?_ | with_reducible refine Blk.drewN ?_ _ | with_reducible refine Blk.far_ ?_ (by first | (simp; done) | (simp; omega) | omega) | with_reducible apply Blk.set_eq | rfl))
          clear hW4 q0 q1 q2 q3 q4 y0 y1 y2 y3 y4
          have k0 := KR4.cell 0; have k1 := KR4.cell 1; have k2 := KR4.cell 2; have k3 := KR4.cell 3; have k4 := KR4.cell 4; simp at k0 k1 k2 k3 k4
          clear KR4
          simp [bodyPost, results, Tryz.results24, go_sem, k0, k1, k2, k3, k4]
          rw [hq.out, HDR.out, pathR_err hy]
          refine ⟨_, rfl, rfl, (((HC3.out.mono (S' := [w.heap.size + 2]) (by simp)).trans C4 (by simp)).mono (S' := []) (by intro x hx; simp at hx; subst hx; exact .inr (by omega))).bel⟩
    · obtain rfl : j = path.length := by omega
      have hte := hide (show pathR path dv = (some x, 0) by rw [hq.out, List.drop_length]; rfl)
      clear hlt hjl
      have hif : decide ((path.length : Int) < (path.length : Int)) = false := by simp
      have KR3 := hI.out.res
      have HR3 := hide KR3
      have lR := KR3.lt
      have q0 := KR3.cell 0; have q1 := KR3.cell 1; have q2 := KR3.cell 2; have q3 := KR3.cell 3; have q4 := KR3.cell 4; simp at q0 q1 q2 q3 q4
      have y0 := KR3.frozen 0; have y1 := KR3.frozen 1; have y2 := KR3.frozen 2; have y3 := KR3.frozen 3; have y4 := KR3.frozen 4
      clear KR3
      go_wp2_with fail
      refine name_postO fun W4 hW4 => ?_
      have C4 : Chg [w.heap.size + 2] wr W4 := by subst hW4; (repeat' (first | with_reducible exact Chg.refl _ _ | with_reducible refine Chg.alloc ?_ _ | with_reducible refine Chg.drew ?_ | with_reducible refine Chg.drewN ?_ _ | with_reducible refine Chg.set_ ?_ _ _ (by first | (simp; done) | (simp; omega) | omega)))
      have KR4 : Blk W4 (w.heap.size + 2) 26 (vCells kx ix sx ax nx cx bx mx ex) := by subst hW4; (repeat' (first | with_reducible exact HR3.out | with_reducible exact Blk.new_ (by first | rfl | (simp; done) | (simp; omega)) | with_reducible refine Blk.alloc_ ?_ | with_reducible refine Blk.drew ?_ | with_reducible refine Blk.drewN ?_ _ | with_reducible refine Blk.far_ ?_ (by first | (simp; done) | (simp; omega) | omega) | with_reducible apply Blk.set_eq | rfl))
      clear hW4 q0 q1 q2 q3 q4 y0 y1 y2 y3 y4 k0 k1 k2 k3 k4 v0 v1 v2 v3 v4
      have k0 := KR4.cell 0; have k1 := KR4.cell 1; have k2 := KR4.cell 2; have k3 := KR4.cell 3; have k4 := KR4.cell 4; simp at k0 k1 k2 k3 k4
      clear KR4
      simp [bodyPost, results, Tryz.results24, go_sem, k0, k1, k2, k3, k4]
      rw [hte.out]
      refine ⟨_, rfl, isV_chg hI.out.is C4 (by intro x hx; simp at hx; have := HN.out; omega), (((hI.out.chg.mono (S' := [w.heap.size + 2]) (by simp)).trans C4 (by simp)).mono (S' := []) (by intro x hx; simp at hx; subst hx; exact .inr (by omega))).bel⟩
end Go.Proofs.YtnepogddjinpoaaGreatDoor
