/-
  The page's Pipe, at any pipeline and environment: pipeR.
-/
import Derived.Test.YtnepogddjinpoaaGreatDoorC3
import Derived.Test.YtnepogddjinpoaaGreatDoorC5
import Derived.Test.YtnepogddjinpoaaGreatDoorC4
import Derived.Test.YtnepogddjinpoaaGreatDoorC6
namespace Go.Proofs.YtnepogddjinpoaaGreatDoor
open Go.RowKit
set_option linter.unusedVariables false
set_option linter.unusedSimpArgs false

theorem goods {l : List CallD} (hm : sumBy massC l ≤ 1048576) (hn : ∀ x ∈ l, numC x) : ∀ c ∈ l, ∀ a ∈ c.args, GoodA a := by
  intro c hc a ha
  have h1 := sumBy_mem massC l c hc
  have h2 : sumBy massA c.args + 1 ≤ massC c := by unfold massC; omega
  have h3 := sumBy_mem massA c.args a ha
  have h4 : a.s.length + 1 ≤ massA a := by unfold massA; omega
  exact ⟨hn c hc a ha, by omega⟩
theorem args_one {n : Nat} (e : EnvD n) (a : ArgD) (l : List ArgD) : argsR e (a :: l) = (match argR e a with | (some v, 0) => (match argsR e l with | (some l, 0) => (some (v :: l), 0) | (_, f) => (none, f)) | (_, f) => (none, f)) := rfl
theorem args_snoc {n : Nat} {e : EnvD n} {a : ArgD} {v : VD n} (ha : argR e a = (some v, 0)) : ∀ (l : List ArgD) (xs : List (VD n)), argsR e l = (some xs, 0) → argsR e (l ++ [a]) = (some (xs ++ [v]), 0) := by
  intro l
  induction l with
  | nil =>
    intro xs h
    injection h with h1 _
    injection h1 with h1
    subst h1
    simp only [List.nil_append, args_one, ha]
    rfl
  | cons b l ih =>
    intro xs h
    rw [args_one] at h
    rw [List.cons_append, args_one]
    split at h
    · rename_i y hy
      try rw [hy]
      split at h
      · rename_i ys hys
        injection h with h1 _
        injection h1 with h1
        subst h1
        simp only [ih ys hys]
        rfl
      · injection h with h1 _
        cases h1
    · injection h with h1 _
      cases h1
theorem args_stop {n : Nat} {e : EnvD n} {a : ArgD} {f : Int} (ha : argR e a = (none, f)) (r : List ArgD) : ∀ (l : List ArgD) (xs : List (VD n)), argsR e l = (some xs, 0) → argsR e (l ++ a :: r) = (none, f) := by
  intro l
  induction l with
  | nil =>
    intro xs h
    simp only [List.nil_append, args_one, ha]
  | cons b l ih =>
    intro xs h
    rw [args_one] at h
    rw [List.cons_append, args_one]
    split at h
    · rename_i y hy
      try rw [hy]
      split at h
      · rename_i ys hys
        simp only [ih ys hys]
      · injection h with h1 _
        cases h1
    · injection h with h1 _
      cases h1
theorem args_good {n : Nat} {e : EnvD n} (he : GoodE e) {l : List ArgD} (ha : ∀ a ∈ l, GoodA a) {xs : List (VD n)} (h : argsR e l = (some xs, 0)) : (∀ x ∈ xs, GoodD x) ∧ xs.length = l.length := by
  rcases args_fine he l ha with ⟨ys, e1, g, hl⟩ | ⟨f, e1, _⟩
  · rw [e1] at h
    injection h with h _
    injection h with h
    subst h
    exact ⟨g, hl⟩
  · rw [e1] at h
    injection h with h _
    cases h
theorem args_bad {n : Nat} {e : EnvD n} {l : List ArgD} {k : Nat} {a : ArgD} {f : Int} {xs : List (VD n)} (ha : argR e a = (none, f)) (hk : l[k]? = some a) (h : argsR e (l.take k) = (some xs, 0)) : argsR e l = (none, f) := by
  have hlt := (List.getElem?_eq_some_iff.1 hk).1
  have e1 : l = l.take k ++ a :: l.drop (k + 1) := by
    rw [← (List.getElem?_eq_some_iff.1 hk).2, ← List.drop_eq_getElem_cons hlt, List.take_append_drop]
  rw [e1]
  exact args_stop ha _ _ _ h
theorem from_step {n : Nat} {e : EnvD n} {c : CallD} {r : List CallD} {last : Option (VD n)} {y : VD n} (h : stepR e c last = (some y, 0)) : pipeFrom e (c :: r) last = pipeFrom e r (some y) := by
  show (match stepR e c last with | (some v, 0) => pipeFrom e r (some v) | (_, f) => (none, f)) = _
  rw [h]
  rfl
theorem from_err {n : Nat} {e : EnvD n} {c : CallD} {r : List CallD} {last : Option (VD n)} {f : Int} (h : stepR e c last = (none, f)) : pipeFrom e (c :: r) last = (none, f) := by
  show (match stepR e c last with | (some v, 0) => pipeFrom e r (some v) | (_, f) => (none, f)) = _
  rw [h]
/-- What stands alone. -/
def lone {n : Nat} (l : List (VD n)) : ResD n := match l with | [v] => (some v, 0) | _ => (none, 9)
theorem step_args {n : Nat} {e : EnvD n} {c : CallD} {last : Option (VD n)} {xs : List (VD n)} (h : argsR e c.args = (some xs, 0)) : stepR e c last = (if c.nm ≠ [] then callR c.nm (xs ++ last.toList) else lone (xs ++ last.toList)) := by
  unfold stepR
  rw [h]
  rfl
theorem step_bad {n : Nat} {e : EnvD n} {c : CallD} {last : Option (VD n)} {f : Int} (h : argsR e c.args = (none, f)) : stepR e c last = (none, f) := by
  unfold stepR
  rw [h]
/-- Pipe's boxes, and what the call ahead told. -/
structure PipeI (N n : Nat) (w wr : World) (E : Array Value) (f : VF) (lst : Option (VD n)) : Prop where
  chg : Chg [] w wr
  env : Blk wr w.heap.size 29 E
  res : Blk wr (w.heap.size + 1) 26 (vCells 0 0 ⟨#[]⟩ none 0 0 none 0 0)
  val : Blk wr (w.heap.size + 2) 26 (vCells f.k f.i f.s f.a f.n f.c f.a2 f.n2 f.c2)
  is : ∀ y, lst = some y → IsV (lowN N) wr (n + 1) f.val y ∧ GoodD y
theorem PipeI.chgd {N n : Nat} {w wr w' : World} {E : Array Value} {f : VF} {lst : Option (VD n)} (h : PipeI N n w wr E f lst) {S : List Nat} (c : Chg S wr w') (hN : N ≤ w.heap.size) (hS : ∀ x ∈ S, w.heap.size + 3 ≤ x) : PipeI N n w w' E f lst := by
  have hn : ∀ k, k < 3 → w.heap.size + k ∉ S := fun k hk hm => by have := hS _ hm; omega
  refine ⟨?_, h.env.chg c (by have := hn 0 (by omega); simpa using this), h.res.chg c (hn 1 (by omega)), h.val.chg c (hn 2 (by omega)), fun y hy => ⟨isV_chg (h.is y hy).1 c (fun x hx => by have := hS x hx; omega), (h.is y hy).2⟩⟩
  exact ((h.chg.mono (S' := S) (by simp)).trans c (fun x hx => .inl hx)).mono (fun x hx => .inr (by have := hS x hx; omega))
set_option maxHeartbeats 8000000 in
set_option maxRecDepth 100000 in
theorem cPipe_nil (r d : VF) (av : Option Addr) (nv cv : Nat) (a : Option Addr) (c : Nat) (w : World) :
    Calls Tryz.prog 8 #[.agg (envCells r d av nv cv), .slice a 0 c] w fun e w' => e = .returned (.tuple #[vFlat 0 0 ⟨#[]⟩, .int .i64 9]) ∧ Below w.heap.size w w' := by
  go_enter Tryz.func8, Tryz.ntmps8
  go_wp2_with fail
  refine name_postO fun W2 hW => ?_
  have C3 : Chg [] w W2 := by subst hW; (repeat' (first | with_reducible exact Chg.refl _ _ | with_reducible refine Chg.alloc ?_ _ | with_reducible refine Chg.drew ?_ | with_reducible refine Chg.drewN ?_ _ | with_reducible refine Chg.set_ ?_ _ _ (by first | (simp; done) | (simp; omega) | omega)))
  have K2 : Blk W2 (w.heap.size + 1) 26 (vCells 0 0 ⟨#[]⟩ none 0 0 none 0 0) := by subst hW; (repeat' (first | with_reducible exact Blk.new_ (by first | rfl | (simp; done) | (simp; omega)) | with_reducible refine Blk.alloc_ ?_ | with_reducible refine Blk.drew ?_ | with_reducible refine Blk.drewN ?_ _ | with_reducible refine Blk.far_ ?_ (by first | (simp; done) | (simp; omega) | omega) | with_reducible apply Blk.set_eq | rfl))
  have k0 := K2.cell 0; have k1 := K2.cell 1; have k2 := K2.cell 2; have k3 := K2.cell 3; have k4 := K2.cell 4; simp at k0 k1 k2 k3 k4
  clear hW K2
  simp [bodyPost, results, Tryz.results8, go_sem, k0, k1, k2, k3, k4]
  exact C3.bel
theorem low_on {N : Nat} {w W : World} (h : Chg [] w W) : Stays (lowN N) (lowN N) w W := ⟨h.size, fun b hb hu => ⟨h.block b hb (by simp), hu⟩⟩
set_option maxHeartbeats 16000000 in
set_option maxRecDepth 100000 in
theorem cPipe_cons (n N : Nat) (e : EnvD n) (r d : VF) (av : Option Addr) (cv : Nat) (a : Option Addr) (c : Nat) (l : List CallD) (w : World) (hl0 : l ≠ []) (hN : N ≤ w.heap.size) (hE : EnvP n (lowN N) w r d av e) (hL : AtR CallR 2 (lowN N) w a l) (ge : GoodE e) (hm : sumBy massC l ≤ 1048576) (hn : ∀ x ∈ l, numC x) (hvl : e.vars.length ≤ 1048576) :
    Calls Tryz.prog 8 #[.agg (envCells r d av e.vars.length cv), .slice a l.length c] w fun f w' => TellsR N n w (pipeFrom e l none) f w' := by
  obtain ⟨i0, hi, hz0, hz1, hz2⟩ := info_parts info_val
  have HN := hide hN; have HEP := hide hE; have HL := hide hL; have HGE := hide ge; have HVL := hide hvl
  have HGL := hide (goods hm hn)
  have hlen : l.length ≤ 1048576 := Nat.le_trans (sumBy_len massC massC_pos l) hm
  have hpos : 0 < l.length := by cases l with | nil => exact absurd rfl hl0 | cons _ _ => simp
  have hne0 : ((l.length : Int) == 0) = false := by simp; omega
  have HM := hide hm
  clear hE hL ge hm hn hN hvl hl0
  obtain ⟨nv, hnv⟩ : ∃ nv, e.vars.length = nv := ⟨_, rfl⟩
  rw [hnv]
  have HNV := hide hnv
  clear hnv
  obtain ⟨kd, id, sd, ad, nd, cd, bd, md, ed⟩ := d
  obtain ⟨kr, ir, sr, ar, nr, cr, br, mr, er⟩ := r
  obtain ⟨E, hEE⟩ : ∃ E, envCells ⟨kr, ir, sr, ar, nr, cr, br, mr, er⟩ ⟨kd, id, sd, ad, nd, cd, bd, md, ed⟩ av nv cv = E := ⟨_, rfl⟩
  have HE := hide hEE
  clear hEE
  go_enter Tryz.func8, Tryz.ntmps8
  go_wp2_with fail
  refine name_codeC fun W0 hW0 => ?_
  have HI0 : Hid (PipeI N n w W0 E ⟨0, 0, ⟨#[]⟩, none, 0, 0, none, 0, 0⟩ none) := hide (by
    have C0 : Chg [] w W0 := by subst hW0; (repeat' (first | with_reducible exact Chg.refl _ _ | with_reducible refine Chg.alloc ?_ _ | with_reducible refine Chg.drew ?_ | with_reducible refine Chg.drewN ?_ _ | with_reducible refine Chg.set_ ?_ _ _ (by first | (simp; done) | (simp; omega) | omega)))
    exact ⟨C0, by rw [← HE.out]; subst hW0; (repeat' (first | with_reducible exact Blk.new_ (by first | rfl | (simp; done) | (simp; omega)) | with_reducible refine Blk.alloc_ ?_ | with_reducible refine Blk.drew ?_ | with_reducible refine Blk.drewN ?_ _ | with_reducible refine Blk.far_ ?_ (by first | (simp; done) | (simp; omega) | omega) | with_reducible apply Blk.set_eq | rfl)), by subst hW0; (repeat' (first | with_reducible exact Blk.new_ (by first | rfl | (simp; done) | (simp; omega)) | with_reducible refine Blk.alloc_ ?_ | with_reducible refine Blk.drew ?_ | with_reducible refine Blk.drewN ?_ _ | with_reducible refine Blk.far_ ?_ (by first | (simp; done) | (simp; omega) | omega) | with_reducible apply Blk.set_eq | rfl)), by subst hW0; (repeat' (first | with_reducible exact Blk.new_ (by first | rfl | (simp; done) | (simp; omega)) | with_reducible refine Blk.alloc_ ?_ | with_reducible refine Blk.drew ?_ | with_reducible refine Blk.drewN ?_ _ | with_reducible refine Blk.far_ ?_ (by first | (simp; done) | (simp; omega) | omega) | with_reducible apply Blk.set_eq | rfl)), fun y hy => by cases hy⟩)
  clear hW0
  go_loopw [7] (fun iv wr => ∃ (j : Nat) (f : VF) (lst : Option (VD n)), iv = .int .i64 (j : Int) ∧ j ≤ l.length ∧ Hid (pipeFrom e l none = pipeFrom e (l.drop j) lst) ∧ Hid (j = 0 ↔ lst = none) ∧ Hid (PipeI N n w wr E f lst)) (fun iv _ => l.length - (intOf iv).toNat)
  case atStart => exact ⟨0, _, none, rfl, Nat.zero_le _, hide rfl, hide (by simp), HI0⟩
  case round =>
    obtain ⟨j, ⟨kx, ix, sx, ax, nx, cx, bx, mx, ex⟩, lst, rfl, hjl, hq, hj0, hI⟩ := hrel
    clear HI0
    by_cases hlt : j < l.length
    · obtain ⟨x, hx⟩ : ∃ x, l[j]? = some x := ⟨_, List.getElem?_eq_getElem hlt⟩
      obtain ⟨b, off, vs, rfl, hb, hu, _, hcell, ⟨a1, c1, rfl, hA⟩⟩ := HL.out j x hx
      have hc0 := hcell 0 _ rfl
      have hc1 := hcell 1 _ rfl
      simp only [Nat.add_zero] at hc0
      have hxm := List.mem_of_getElem? hx
      have HA := hide hA
      have HGA := hide (HGL.out x hxm)
      have HXM : Hid (sumBy massA x.args ≤ 1048576) := hide (by have h1 := sumBy_mem massC l x hxm; have h2 := HM.out; unfold massC at h1 h2; omega)
      have HXL : Hid (x.args.length ≤ 1048576) := hide (Nat.le_trans (sumBy_len massA massA_pos x.args) HXM.out)
      have hdr : l.drop j = x :: l.drop (j + 1) := by rw [List.drop_eq_getElem_cons hlt]; congr 1; rw [List.getElem?_eq_getElem hlt] at hx; injection hx
      have HDR := hide hdr
      have HLT := hide hlt
      have hji : (j : Int) < (l.length : Int) := by omega
      have hj9 : j < 1048576 := by omega
      clear hcell hA hx hu hxm hdr hlt hjl
      go_wp2_with fail
      go_loopw [8, 9] (fun tv kv wr => ∃ (k : Nat) (es : List VF) (xs : List (VD n)), kv = .int .i64 (k : Int) ∧ k ≤ x.args.length ∧ Hid (argsR e (x.args.take k) = (some xs, 0)) ∧ Hid (PipeI N n w wr E ⟨kx, ix, sx, ax, nx, cx, bx, mx, ex⟩ lst) ∧ Hid (RowL (n + 1) N (w.heap.size + 3) wr tv es xs)) (fun _ kv _ => x.args.length - (intOf kv).toNat)
      case atStart => exact ⟨0, [], [], rfl, Nat.zero_le _, hide rfl, hI, hide (RowL.nil _ _ _ _)⟩
      case round =>
        obtain ⟨k, es, xs, rfl, hkl, hxs, HP, HROW⟩ := hrel
        have f1 := (cellB (HP.out.chg.block b hb (by simp)) _).trans hc1
        have hbw := Nat.lt_of_lt_of_le hb HP.out.chg.size
        have hsw := HP.out.chg.size
        by_cases hlt2 : k < x.args.length
        · obtain ⟨y, hy⟩ : ∃ y, x.args[k]? = some y := ⟨_, List.getElem?_eq_getElem hlt2⟩
          obtain ⟨b2, off2, vs2, rfl, hb2, hu2, _, hcell2, ⟨a2, cp, rfl, hPath⟩⟩ := HA.out k y hy
          have hblk2 := HP.out.chg.block b2 hb2 (by simp)
          have p0 := (cellB hblk2 _).trans (hcell2 0 _ rfl)
          have p1 := (cellB hblk2 _).trans (hcell2 1 _ rfl)
          have p2 := (cellB hblk2 _).trans (hcell2 2 _ rfl)
          have p3 := (cellB hblk2 _).trans (hcell2 3 _ rfl)
          have p4 := (cellB hblk2 _).trans (hcell2 4 _ rfl)
          simp only [Nat.add_zero] at p0
          have hbw2 := Nat.lt_of_lt_of_le hb2 hsw
          have hym := List.mem_of_getElem? hy
          have hpl : y.path.length ≤ 1048576 := by
            have h1 := sumBy_mem massA x.args y hym
            have h2 := sumBy_len (fun p : List UInt8 => p.length + 1) (fun _ => by omega) y.path
            have h3 := HXM.out
            have h4 : sumBy (fun p : List UInt8 => p.length + 1) y.path ≤ massA y := by unfold massA; omega
            omega
          have cA := hide (fun W (hW : Below wr.heap.size wr W) => cArg_any n N e ⟨kr, ir, sr, ar, nr, cr, br, mr, er⟩ ⟨kd, id, sd, ad, nd, cd, bd, md, ed⟩ av cv y a2 cp W (Nat.le_trans HN.out (Nat.le_trans hsw hW.size)) (HEP.out.on (low_on (HP.out.chg.below hW))) (hPath.on StrR.steady (low_on (HP.out.chg.below hW))) HGE.out HVL.out hpl)
          simp only [HNV.out] at cA
          have hki : (k : Int) < (x.args.length : Int) := by omega
          have hk9 : k < 1048576 := by have := HXL.out; omega
          have HLT2 := hide hlt2
          have HY := hide hy
          have hN9 := HN.out
          have HLE : Hid (es.length ≤ 1048576) := hide (by have h1 := (args_good HGE.out (fun a ha => HGA.out a (List.mem_of_mem_take ha)) hxs.out).2; have h2 : es.length = xs.length := HROW.out.len; have h3 := HXL.out; rw [List.length_take] at h1; omega)
          rcases arg_fine HGE.out (HGA.out y hym) with ⟨u, hu, gu⟩ | ⟨E1, hu, hE1⟩
          · have cA1 : Hid (∀ W, Below wr.heap.size wr W → Calls Tryz.prog 24 #[.agg (envCells ⟨kr, ir, sr, ar, nr, cr, br, mr, er⟩ ⟨kd, id, sd, ad, nd, cd, bd, md, ed⟩ av nv cv), .agg #[.int .i64 y.k, .string ⟨y.nm.toArray⟩, .slice a2 y.path.length cp, .int .i64 y.i, .string ⟨y.s.toArray⟩]] W fun e w' => ∃ f : VF, e = .returned (.tuple #[.agg (vCells f.k f.i f.s f.a f.n f.c f.a2 f.n2 f.c2), .int .i64 0]) ∧ IsV (lowN N) w' (n + 1) f.val u ∧ Below W.heap.size W w') := hide (by
              intro W hW
              refine (cA.out W hW).mono ?_
              rintro e' w' ⟨v', rfl, ht, hb⟩
              rw [hu] at ht
              obtain ⟨f, rfl⟩ := IsV.shape (show IsV (lowN N) w' (n + 1) v' u from ht)
              exact ⟨f, by rw [hu], ht, hb⟩)
            clear cA hPath hcell2 hu2 hblk2 hym hlt2 hy hpl
            go_wp2_with fail
            refine wp_region_held (S := fun W => Below wr.heap.size wr W) (by kernel_rfl) ?_
            change wpAnyH _ _ _ _ _ _ _ _ (World.drew _)
            have hD : Below wr.heap.size wr wr.drew := (Below.refl _ _).drew
            refine wpAnyH_take (i := 0) (v := .agg (envCells ⟨kr, ir, sr, ar, nr, cr, br, mr, er⟩ ⟨kd, id, sd, ad, nd, cd, bd, md, ed⟩ av nv cv)) rfl (by kernel_rfl) (by kernel_rfl) (by kernel_rfl) (fun _ _ _ h => h) (Or.inl ⟨by rfl, by
              intro W hW
              have KE := HP.out.env.chg (Chg.of_below (S := []) hW) (by simp)
              rw [← HE.out] at KE
              have q0 := KE.cell 0; have q1 := KE.cell 1; have q2 := KE.cell 2; have q3 := KE.cell 3; have q4 := KE.cell 4; have q5 := KE.cell 5; have q6 := KE.cell 6; have q7 := KE.cell 7; have q8 := KE.cell 8; have q9 := KE.cell 9; have q10 := KE.cell 10; simp at q0 q1 q2 q3 q4 q5 q6 q7 q8 q9 q10
              clear KE
              go_simp⟩) hD ?_
            refine wpAnyH_take (i := 1) (v := .slice (some ⟨b, off, none⟩) l.length c) rfl (by kernel_rfl) (by kernel_rfl) (by kernel_rfl) (fun _ _ _ h => h) (Or.inl ⟨by rfl, by intro W hW; go_simp⟩) hD ?_
            refine wpAnyH_take (i := 2) (v := .int .i64 (j : Int)) rfl (by kernel_rfl) (by kernel_rfl) (by kernel_rfl) (fun _ _ _ h => h) (Or.inl ⟨by rfl, by intro W hW; go_simp⟩) hD ?_
            refine wpAnyH_take (i := 3) (v := .pointer (some ⟨b, off + j * 2, none⟩)) rfl (by kernel_rfl) (by kernel_rfl) (by kernel_rfl) (fun _ _ _ h => h) (Or.inl ⟨by rfl, by intro W hW; go_simp⟩) hD ?_
            refine wpAnyH_take (i := 4) (v := .pointer (some ⟨b, off + j * 2 + 1, none⟩)) rfl (by kernel_rfl) (by kernel_rfl) (by kernel_rfl) (fun _ _ _ h => h) (Or.inl ⟨by rfl, by intro W hW; go_simp⟩) hD ?_
            refine wpAnyH_take (i := 5) (v := .slice (some ⟨b2, off2, none⟩) x.args.length c1) rfl (by kernel_rfl) (by kernel_rfl) (by kernel_rfl) (fun _ _ _ h => h) (Or.inl ⟨by rfl, by
              intro W hW
              have q0 := (cellB (hW.block b hbw) _).trans f1
              go_simp⟩) hD ?_
            refine wpAnyH_take (i := 6) (v := .int .i64 (k : Int)) rfl (by kernel_rfl) (by kernel_rfl) (by kernel_rfl) (fun _ _ _ h => h) (Or.inl ⟨by rfl, by intro W hW; go_simp⟩) hD ?_
            refine wpAnyH_take (i := 7) (v := .pointer (some ⟨b2, off2 + k * 5, none⟩)) rfl (by kernel_rfl) (by kernel_rfl) (by kernel_rfl) (fun _ _ _ h => h) (Or.inl ⟨by rfl, by intro W hW; go_simp⟩) hD ?_
            refine wpAnyH_take (i := 8) (v := .agg (#[.int .i64 y.k, .string ⟨y.nm.toArray⟩, .slice a2 y.path.length cp, .int .i64 y.i, .string ⟨y.s.toArray⟩])) rfl (by kernel_rfl) (by kernel_rfl) (by kernel_rfl) (fun _ _ _ h => h) (Or.inl ⟨by rfl, by
              intro W hW
              have q0 := (cellB (hW.block b2 hbw2) _).trans p0
              have q1 := (cellB (hW.block b2 hbw2) _).trans p1
              have q2 := (cellB (hW.block b2 hbw2) _).trans p2
              have q3 := (cellB (hW.block b2 hbw2) _).trans p3
              have q4 := (cellB (hW.block b2 hbw2) _).trans p4
              go_simp⟩) hD ?_
            refine wpAnyH_all (rs := [9, 13]) (by kernel_rfl) (by simp) ?_
            intro i0 hi0
            simp only [List.mem_cons, List.mem_nil_iff, or_false] at hi0
            rcases hi0 with rfl | rfl
            · refine wpOp_enter 24 #[.agg (envCells ⟨kr, ir, sr, ar, nr, cr, br, mr, er⟩ ⟨kd, id, sd, ad, nd, cd, bd, md, ed⟩ av nv cv), .agg #[.int .i64 y.k, .string ⟨y.nm.toArray⟩, .slice a2 y.path.length cp, .int .i64 y.i, .string ⟨y.s.toArray⟩]] rfl (by rfl) (by go_simp) ?_
              refine (cA1.out _ hD).mono ?_
              rintro e w1 ⟨⟨kf, jf, sf, af, nf, cf, bf, mf, ef⟩, rfl, hv, hb1⟩
              have hB1 := below_step hD hb1
              refine ⟨_, rfl, hB1, ?_⟩
              refine wpAnyH_take (i := 10) (v := .tuple #[.agg (vCells kf jf sf af nf cf bf mf ef), .int .i64 0]) rfl (by kernel_rfl) (by kernel_rfl) (by kernel_rfl) (fun _ _ _ h => h) (Or.inl ⟨by rfl, by intro W hW; go_simp⟩) hB1 ?_
              refine wpAnyH_take (i := 11) (v := .agg (vCells kf jf sf af nf cf bf mf ef)) rfl (by kernel_rfl) (by kernel_rfl) (by kernel_rfl) (fun _ _ _ h => h) (Or.inl ⟨by rfl, by intro W hW; go_simp⟩) hB1 ?_
              refine wpAnyH_take (i := 12) (v := .int .i64 0) rfl (by kernel_rfl) (by kernel_rfl) (by kernel_rfl) (fun _ _ _ h => h) (Or.inl ⟨by rfl, by intro W hW; go_simp⟩) hB1 ?_
              refine wpAnyH_all (rs := [13]) (by kernel_rfl) (by simp) ?_
              intro i0 hi0
              simp only [List.mem_cons, List.mem_nil_iff, or_false] at hi0
              subst hi0
              obtain ⟨w2, hw2⟩ : ∃ w2, w1.alloc (.cells (vCells 0 0 ⟨#[]⟩ none 0 0 none 0 0) 26) = w2 := ⟨_, rfl⟩
              have hb2 : Below w1.heap.size w1 w2 := by rw [← hw2]; exact (Below.refl _ _).alloc (Nat.le_refl _) _
              have hB2 := below_step hB1 hb2
              have KZ : Blk w2 w1.heap.size 26 (vCells 0 0 ⟨#[]⟩ none 0 0 none 0 0) := by rw [← hw2]; exact Blk.new w1 _ _
              refine wpOp_does (v := .pointer (some ⟨w1.heap.size, 0, none⟩)) (w' := w2) rfl (by rfl) (by rw [← hw2]; go_simp) ⟨hB2, ?_⟩
              clear hw2
              have hv := isV_bel hv hb2
              have hg : wr.heap.size ≤ w1.heap.size := hB1.size
              obtain ⟨g, hgd⟩ : ∃ g, w1.heap.size = g := ⟨_, rfl⟩
              rw [hgd] at KZ hg
              rw [hgd]
              clear hgd hb1 hb2 hB1
              have hNg : N ≤ g := by omega
              obtain ⟨W3, hW3⟩ : ∃ W3, set5 w2 g (.int .i64 kf) (.int .i64 jf) (.string sf) (.slice af nf cf) (.slice bf mf ef) = W3 := ⟨_, rfl⟩
              have C3 : Chg [g] w2 W3 := by rw [← hW3]; unfold set5; (repeat' (first | with_reducible exact Chg.refl _ _ | with_reducible refine Chg.alloc ?_ _ | with_reducible refine Chg.drew ?_ | with_reducible refine Chg.drewN ?_ _ | with_reducible refine Chg.set_ ?_ _ _ (by first | (simp; done) | (simp; omega) | omega)))
              have K10 : Blk W3 g 26 (vCells kf jf sf af nf cf bf mf ef) := by rw [← hW3]; exact set5_blk KZ _ _ _ _ _
              have hB3 : Below wr.heap.size wr W3 := by
                skip
                exact (((Chg.of_below (S := []) hB2).mono (S' := [g]) (by simp)).trans C3 (by simp)).to_below (Nat.le_refl _) (by intro x hx; simp at hx; omega)
              refine wpAnyH_all (rs := [14]) (by kernel_rfl) (by simp) ?_
              intro i0 hi0
              simp only [List.mem_cons, List.mem_nil_iff, or_false] at hi0
              subst hi0
              refine wpOp_skips (w' := W3) rfl (by rfl) (by
                rw [← hW3]
                clear hW3 K10 C3 hB3
                have q0 := KZ.cell 0; have q1 := KZ.cell 1; have q2 := KZ.cell 2; have q3 := KZ.cell 3; have q4 := KZ.cell 4; simp at q0 q1 q2 q3 q4
                have y0 := KZ.frozen 0; have y1 := KZ.frozen 1; have y2 := KZ.frozen 2; have y3 := KZ.frozen 3; have y4 := KZ.frozen 4
                have lz := KZ.lt
                clear KZ
                go_simp) ⟨hB3, ?_⟩
              refine wpAnyH_take (i := 15) (v := .int .i64 0) rfl (by kernel_rfl) (by kernel_rfl) (by kernel_rfl) (fun _ _ _ h => h) (Or.inl ⟨by rfl, by intro W hW; go_simp⟩) hB3 ?_
              refine wpAnyH_done (by kernel_rfl) ?_ _
              have hv3 := isV_chg hv C3 (by intro x hx; simp at hx; subst hx; exact hNg)
              clear hv
              clear hW3 C3 KZ hB2 hD
              have HP3 := hide (HP.out.chgd (Chg.of_below (S := []) hB3) HN.out (by intro x hx; cases hx))
              have HRO := hide (HROW.out.below hB3)
              clear hB3 HP HROW
              have HK10 := hide K10
              have lG := K10.lt
              have q0 := K10.cell 0; have q1 := K10.cell 1; have q2 := K10.cell 2; have q3 := K10.cell 3; have q4 := K10.cell 4; simp at q0 q1 q2 q3 q4
              clear K10 p0 p1 p2 p3 p4 f1
              have hlenE := HLE.out
              obtain ⟨A0, c0, hA0⟩ := HRO.out.slice
              rw [hA0] at HRO
              have hown := HRO.out.own
              have hbase : w.heap.size + 3 ≤ W3.heap.size := by have := HP3.out.val.lt; omega
              rw [hA0]
              clear hA0
              go_wp2_with (at_builtin; refine wpList_append_lies _ rfl _ _ 23 rfl (w.heap.size + 3) 26 i0 (.agg #[.int .i64 0, .int .i64 0, .string ⟨#[]⟩, .slice none 0 0, .slice none 0 0]) 5 80 Tryz.underlying23 hi hz0 hz1 hz2 rfl (by decide) (.slice A0 xs.length c0) es.length (es.flatMap VF.cells) rfl (hown.alloc _) ⟨W3.heap.size, 0, none⟩ 1 1 [.int .i64 kf, .int .i64 jf, .string sf, .slice af nf cf, .slice bf mf ef] rfl rfl (by intro j u hj; match j, hj with | 0, hj => (simp at hj; subst hj; simp [Addr.add]) | 1, hj => (simp at hj; subst hj; simp [Addr.add]) | 2, hj => (simp at hj; subst hj; simp [Addr.add]) | 3, hj => (simp at hj; subst hj; simp [Addr.add]) | 4, hj => (simp at hj; subst hj; simp [Addr.add])) (by intro u hu; simp at hu; rcases hu with rfl | rfl | rfl | rfl | rfl <;> rfl) (by omega) (by unfold maxLen; omega) (by omega) (by simp; omega) _ rfl ?_)
              intro g4 cp4 w4 hown4 hgrow4 hat4 hlt4
              have hA4 := (Below.refl W3.heap.size W3).alloc (Nat.le_refl _) (.cells #[.int .i64 kf, .int .i64 jf, .string sf, .slice af nf cf, .slice bf mf ef] 26)
              have hC4 : Chg (Value.slice A0 xs.length c0).ownBlock.toList W3 w4 := ((Chg.refl _ _).below hA4).grown hgrow4 (fun k hk => .inl (by rw [hk]; simp))
              have hS4 : ∀ z ∈ (Value.slice A0 xs.length c0).ownBlock.toList, w.heap.size + 3 ≤ z := by
                intro z hz
                exact (HRO.out.own.lt z (Option.mem_toList.1 hz)).1
              have HR4 := hide (RowL.snoc (e := ⟨kf, jf, sf, af, nf, cf, bf, mf, ef⟩) HRO.out hv3 (by have := HN.out; omega) hbase hA4 hgrow4 hown4)
              have HP4 := hide (HP3.out.chgd hC4 HN.out hS4)
              clear hown4 hgrow4 hat4 hC4 hS4 hA4 hown hv3 q0 q1 q2 q3 q4 HRO HP3
              have hlt2 := HLT2.out
              go_wp2_with fail
              go_roundw
              case rel =>
                refine ⟨k + 1, es ++ [⟨kf, jf, sf, af, nf, cf, bf, mf, ef⟩], xs ++ [u], by go_num, by omega, hide ?_, HP4, HR4⟩
                rw [List.take_add_one, HY.out]
                exact args_snoc hu _ _ hxs.out
              case measure => simp [intOf]; omega
            · obtain ⟨w1, hw1⟩ : ∃ w1, wr.drew.alloc (.cells (vCells 0 0 ⟨#[]⟩ none 0 0 none 0 0) 26) = w1 := ⟨_, rfl⟩
              have hB1 : Below wr.heap.size wr w1 := by rw [← hw1]; exact hD.alloc (Nat.le_refl _) _
              have KZ : Blk w1 wr.heap.size 26 (vCells 0 0 ⟨#[]⟩ none 0 0 none 0 0) := by rw [← hw1]; exact Blk.new wr.drew _ _
              refine wpOp_does (v := .pointer (some ⟨wr.heap.size, 0, none⟩)) (w' := w1) rfl (by rfl) (by rw [← hw1]; go_simp) ⟨hB1, ?_⟩
              clear hw1
              refine wpAnyH_all (rs := [9]) (by kernel_rfl) (by simp) ?_
              intro i0 hi0
              simp only [List.mem_cons, List.mem_nil_iff, or_false] at hi0
              subst hi0
              refine wpOp_enter 24 #[.agg (envCells ⟨kr, ir, sr, ar, nr, cr, br, mr, er⟩ ⟨kd, id, sd, ad, nd, cd, bd, md, ed⟩ av nv cv), .agg #[.int .i64 y.k, .string ⟨y.nm.toArray⟩, .slice a2 y.path.length cp, .int .i64 y.i, .string ⟨y.s.toArray⟩]] rfl (by rfl) (by go_simp) ?_
              refine (cA1.out _ hB1).mono ?_
              rintro e w2 ⟨⟨kf, jf, sf, af, nf, cf, bf, mf, ef⟩, rfl, hv, hb1⟩
              have hB2 := below_step hB1 hb1
              refine ⟨_, rfl, hB2, ?_⟩
              have KZ := KZ.chg (Chg.of_below (S := []) hb1) (by simp)
              have hg : wr.heap.size ≤ wr.heap.size := Nat.le_refl _
              obtain ⟨g, hgd⟩ : ∃ g, wr.heap.size = g := ⟨_, rfl⟩
              rw [hgd] at KZ hB2 hD
              have hg : wr.heap.size ≤ g := by omega
              rw [hgd]
              clear hb1 hB1
              have hNg : N ≤ g := by omega
              refine wpAnyH_take (i := 10) (v := .tuple #[.agg (vCells kf jf sf af nf cf bf mf ef), .int .i64 0]) rfl (by kernel_rfl) (by kernel_rfl) (by kernel_rfl) (fun _ _ _ h => h) (Or.inl ⟨by rfl, by intro W hW; go_simp⟩) hB2 ?_
              refine wpAnyH_take (i := 11) (v := .agg (vCells kf jf sf af nf cf bf mf ef)) rfl (by kernel_rfl) (by kernel_rfl) (by kernel_rfl) (fun _ _ _ h => h) (Or.inl ⟨by rfl, by intro W hW; go_simp⟩) hB2 ?_
              refine wpAnyH_take (i := 12) (v := .int .i64 0) rfl (by kernel_rfl) (by kernel_rfl) (by kernel_rfl) (fun _ _ _ h => h) (Or.inl ⟨by rfl, by intro W hW; go_simp⟩) hB2 ?_
              obtain ⟨W3, hW3⟩ : ∃ W3, set5 w2 g (.int .i64 kf) (.int .i64 jf) (.string sf) (.slice af nf cf) (.slice bf mf ef) = W3 := ⟨_, rfl⟩
              have C3 : Chg [g] w2 W3 := by rw [← hW3]; unfold set5; (repeat' (first | with_reducible exact Chg.refl _ _ | with_reducible refine Chg.alloc ?_ _ | with_reducible refine Chg.drew ?_ | with_reducible refine Chg.drewN ?_ _ | with_reducible refine Chg.set_ ?_ _ _ (by first | (simp; done) | (simp; omega) | omega)))
              have K10 : Blk W3 g 26 (vCells kf jf sf af nf cf bf mf ef) := by rw [← hW3]; exact set5_blk KZ _ _ _ _ _
              have hB3 : Below g wr W3 := by
                rw [← hgd] at hB2 ⊢
                exact (((Chg.of_below (S := []) hB2).mono (S' := [g]) (by simp)).trans C3 (by simp)).to_below (Nat.le_refl _) (by intro x hx; simp at hx; omega)
              refine wpAnyH_all (rs := [14]) (by kernel_rfl) (by simp) ?_
              intro i0 hi0
              simp only [List.mem_cons, List.mem_nil_iff, or_false] at hi0
              subst hi0
              refine wpOp_skips (w' := W3) rfl (by rfl) (by
                rw [← hW3]
                clear hW3 K10 C3 hB3
                have q0 := KZ.cell 0; have q1 := KZ.cell 1; have q2 := KZ.cell 2; have q3 := KZ.cell 3; have q4 := KZ.cell 4; simp at q0 q1 q2 q3 q4
                have y0 := KZ.frozen 0; have y1 := KZ.frozen 1; have y2 := KZ.frozen 2; have y3 := KZ.frozen 3; have y4 := KZ.frozen 4
                have lz := KZ.lt
                clear KZ
                go_simp) ⟨hB3, ?_⟩
              refine wpAnyH_take (i := 15) (v := .int .i64 0) rfl (by kernel_rfl) (by kernel_rfl) (by kernel_rfl) (fun _ _ _ h => h) (Or.inl ⟨by rfl, by intro W hW; go_simp⟩) hB3 ?_
              refine wpAnyH_done (by kernel_rfl) ?_ _
              have hv3 := isV_chg hv C3 (by intro x hx; simp at hx; subst hx; exact hNg)
              clear hv
              clear hW3 C3 KZ hB2 hD
              rw [← hgd] at hB3
              clear hgd
              have HP3 := hide (HP.out.chgd (Chg.of_below (S := []) hB3) HN.out (by intro x hx; cases hx))
              have HRO := hide (HROW.out.below hB3)
              clear hB3 HP HROW
              have HK10 := hide K10
              have lG := K10.lt
              have q0 := K10.cell 0; have q1 := K10.cell 1; have q2 := K10.cell 2; have q3 := K10.cell 3; have q4 := K10.cell 4; simp at q0 q1 q2 q3 q4
              clear K10 p0 p1 p2 p3 p4 f1
              have hlenE := HLE.out
              obtain ⟨A0, c0, hA0⟩ := HRO.out.slice
              rw [hA0] at HRO
              have hown := HRO.out.own
              have hbase : w.heap.size + 3 ≤ W3.heap.size := by have := HP3.out.val.lt; omega
              rw [hA0]
              clear hA0
              go_wp2_with (at_builtin; refine wpList_append_lies _ rfl _ _ 23 rfl (w.heap.size + 3) 26 i0 (.agg #[.int .i64 0, .int .i64 0, .string ⟨#[]⟩, .slice none 0 0, .slice none 0 0]) 5 80 Tryz.underlying23 hi hz0 hz1 hz2 rfl (by decide) (.slice A0 xs.length c0) es.length (es.flatMap VF.cells) rfl (hown.alloc _) ⟨W3.heap.size, 0, none⟩ 1 1 [.int .i64 kf, .int .i64 jf, .string sf, .slice af nf cf, .slice bf mf ef] rfl rfl (by intro j u hj; match j, hj with | 0, hj => (simp at hj; subst hj; simp [Addr.add]) | 1, hj => (simp at hj; subst hj; simp [Addr.add]) | 2, hj => (simp at hj; subst hj; simp [Addr.add]) | 3, hj => (simp at hj; subst hj; simp [Addr.add]) | 4, hj => (simp at hj; subst hj; simp [Addr.add])) (by intro u hu; simp at hu; rcases hu with rfl | rfl | rfl | rfl | rfl <;> rfl) (by omega) (by unfold maxLen; omega) (by omega) (by simp; omega) _ rfl ?_)
              intro g4 cp4 w4 hown4 hgrow4 hat4 hlt4
              have hA4 := (Below.refl W3.heap.size W3).alloc (Nat.le_refl _) (.cells #[.int .i64 kf, .int .i64 jf, .string sf, .slice af nf cf, .slice bf mf ef] 26)
              have hC4 : Chg (Value.slice A0 xs.length c0).ownBlock.toList W3 w4 := ((Chg.refl _ _).below hA4).grown hgrow4 (fun k hk => .inl (by rw [hk]; simp))
              have hS4 : ∀ z ∈ (Value.slice A0 xs.length c0).ownBlock.toList, w.heap.size + 3 ≤ z := by
                intro z hz
                exact (HRO.out.own.lt z (Option.mem_toList.1 hz)).1
              have HR4 := hide (RowL.snoc (e := ⟨kf, jf, sf, af, nf, cf, bf, mf, ef⟩) HRO.out hv3 (by have := HN.out; omega) hbase hA4 hgrow4 hown4)
              have HP4 := hide (HP3.out.chgd hC4 HN.out hS4)
              clear hown4 hgrow4 hat4 hC4 hS4 hA4 hown hv3 q0 q1 q2 q3 q4 HRO HP3
              have hlt2 := HLT2.out
              go_wp2_with fail
              go_roundw
              case rel =>
                refine ⟨k + 1, es ++ [⟨kf, jf, sf, af, nf, cf, bf, mf, ef⟩], xs ++ [u], by go_num, by omega, hide ?_, HP4, HR4⟩
                rw [List.take_add_one, HY.out]
                exact args_snoc hu _ _ hxs.out
              case measure => simp [intOf]; omega
          · have cA1 : Hid (∀ W, Below wr.heap.size wr W → Calls Tryz.prog 24 #[.agg (envCells ⟨kr, ir, sr, ar, nr, cr, br, mr, er⟩ ⟨kd, id, sd, ad, nd, cd, bd, md, ed⟩ av nv cv), .agg #[.int .i64 y.k, .string ⟨y.nm.toArray⟩, .slice a2 y.path.length cp, .int .i64 y.i, .string ⟨y.s.toArray⟩]] W fun e w' => e = .returned (.tuple #[.agg (vCells 0 0 ⟨#[]⟩ none 0 0 none 0 0), .int .i64 E1]) ∧ Below W.heap.size W w') := hide (by
              intro W hW
              refine (cA.out W hW).mono ?_
              rintro e' w' ⟨v', rfl, ht, hb⟩
              rw [hu] at ht
              have ht3 : v' = zeroV := ht
              subst ht3
              exact ⟨by rw [hu]; rfl, hb⟩)
            have eE : (E1 == 0) = false := by simpa using hE1
            clear cA hPath hcell2 hu2 hblk2 hym hlt2 hpl hE1
            go_wp2_with fail
            refine wp_region_held (S := fun W => Below wr.heap.size wr W) (by kernel_rfl) ?_
            change wpAnyH _ _ _ _ _ _ _ _ (World.drew _)
            have hD : Below wr.heap.size wr wr.drew := (Below.refl _ _).drew
            refine wpAnyH_take (i := 0) (v := .agg (envCells ⟨kr, ir, sr, ar, nr, cr, br, mr, er⟩ ⟨kd, id, sd, ad, nd, cd, bd, md, ed⟩ av nv cv)) rfl (by kernel_rfl) (by kernel_rfl) (by kernel_rfl) (fun _ _ _ h => h) (Or.inl ⟨by rfl, by
              intro W hW
              have KE := HP.out.env.chg (Chg.of_below (S := []) hW) (by simp)
              rw [← HE.out] at KE
              have q0 := KE.cell 0; have q1 := KE.cell 1; have q2 := KE.cell 2; have q3 := KE.cell 3; have q4 := KE.cell 4; have q5 := KE.cell 5; have q6 := KE.cell 6; have q7 := KE.cell 7; have q8 := KE.cell 8; have q9 := KE.cell 9; have q10 := KE.cell 10; simp at q0 q1 q2 q3 q4 q5 q6 q7 q8 q9 q10
              clear KE
              go_simp⟩) hD ?_
            refine wpAnyH_take (i := 1) (v := .slice (some ⟨b, off, none⟩) l.length c) rfl (by kernel_rfl) (by kernel_rfl) (by kernel_rfl) (fun _ _ _ h => h) (Or.inl ⟨by rfl, by intro W hW; go_simp⟩) hD ?_
            refine wpAnyH_take (i := 2) (v := .int .i64 (j : Int)) rfl (by kernel_rfl) (by kernel_rfl) (by kernel_rfl) (fun _ _ _ h => h) (Or.inl ⟨by rfl, by intro W hW; go_simp⟩) hD ?_
            refine wpAnyH_take (i := 3) (v := .pointer (some ⟨b, off + j * 2, none⟩)) rfl (by kernel_rfl) (by kernel_rfl) (by kernel_rfl) (fun _ _ _ h => h) (Or.inl ⟨by rfl, by intro W hW; go_simp⟩) hD ?_
            refine wpAnyH_take (i := 4) (v := .pointer (some ⟨b, off + j * 2 + 1, none⟩)) rfl (by kernel_rfl) (by kernel_rfl) (by kernel_rfl) (fun _ _ _ h => h) (Or.inl ⟨by rfl, by intro W hW; go_simp⟩) hD ?_
            refine wpAnyH_take (i := 5) (v := .slice (some ⟨b2, off2, none⟩) x.args.length c1) rfl (by kernel_rfl) (by kernel_rfl) (by kernel_rfl) (fun _ _ _ h => h) (Or.inl ⟨by rfl, by
              intro W hW
              have q0 := (cellB (hW.block b hbw) _).trans f1
              go_simp⟩) hD ?_
            refine wpAnyH_take (i := 6) (v := .int .i64 (k : Int)) rfl (by kernel_rfl) (by kernel_rfl) (by kernel_rfl) (fun _ _ _ h => h) (Or.inl ⟨by rfl, by intro W hW; go_simp⟩) hD ?_
            refine wpAnyH_take (i := 7) (v := .pointer (some ⟨b2, off2 + k * 5, none⟩)) rfl (by kernel_rfl) (by kernel_rfl) (by kernel_rfl) (fun _ _ _ h => h) (Or.inl ⟨by rfl, by intro W hW; go_simp⟩) hD ?_
            refine wpAnyH_take (i := 8) (v := .agg (#[.int .i64 y.k, .string ⟨y.nm.toArray⟩, .slice a2 y.path.length cp, .int .i64 y.i, .string ⟨y.s.toArray⟩])) rfl (by kernel_rfl) (by kernel_rfl) (by kernel_rfl) (fun _ _ _ h => h) (Or.inl ⟨by rfl, by
              intro W hW
              have q0 := (cellB (hW.block b2 hbw2) _).trans p0
              have q1 := (cellB (hW.block b2 hbw2) _).trans p1
              have q2 := (cellB (hW.block b2 hbw2) _).trans p2
              have q3 := (cellB (hW.block b2 hbw2) _).trans p3
              have q4 := (cellB (hW.block b2 hbw2) _).trans p4
              go_simp⟩) hD ?_
            refine wpAnyH_all (rs := [9, 13]) (by kernel_rfl) (by simp) ?_
            intro i0 hi0
            simp only [List.mem_cons, List.mem_nil_iff, or_false] at hi0
            rcases hi0 with rfl | rfl
            · refine wpOp_enter 24 #[.agg (envCells ⟨kr, ir, sr, ar, nr, cr, br, mr, er⟩ ⟨kd, id, sd, ad, nd, cd, bd, md, ed⟩ av nv cv), .agg #[.int .i64 y.k, .string ⟨y.nm.toArray⟩, .slice a2 y.path.length cp, .int .i64 y.i, .string ⟨y.s.toArray⟩]] rfl (by rfl) (by go_simp) ?_
              refine (cA1.out _ hD).mono ?_
              rintro e w1 ⟨rfl, hb1⟩
              have hB1 := below_step hD hb1
              refine ⟨_, rfl, hB1, ?_⟩
              refine wpAnyH_take (i := 10) (v := .tuple #[.agg (vCells 0 0 ⟨#[]⟩ none 0 0 none 0 0), .int .i64 E1]) rfl (by kernel_rfl) (by kernel_rfl) (by kernel_rfl) (fun _ _ _ h => h) (Or.inl ⟨by rfl, by intro W hW; go_simp⟩) hB1 ?_
              refine wpAnyH_take (i := 11) (v := .agg (vCells 0 0 ⟨#[]⟩ none 0 0 none 0 0)) rfl (by kernel_rfl) (by kernel_rfl) (by kernel_rfl) (fun _ _ _ h => h) (Or.inl ⟨by rfl, by intro W hW; go_simp⟩) hB1 ?_
              refine wpAnyH_take (i := 12) (v := .int .i64 E1) rfl (by kernel_rfl) (by kernel_rfl) (by kernel_rfl) (fun _ _ _ h => h) (Or.inl ⟨by rfl, by intro W hW; go_simp⟩) hB1 ?_
              refine wpAnyH_all (rs := [13]) (by kernel_rfl) (by simp) ?_
              intro i0 hi0
              simp only [List.mem_cons, List.mem_nil_iff, or_false] at hi0
              subst hi0
              obtain ⟨w2, hw2⟩ : ∃ w2, w1.alloc (.cells (vCells 0 0 ⟨#[]⟩ none 0 0 none 0 0) 26) = w2 := ⟨_, rfl⟩
              have hb2 : Below w1.heap.size w1 w2 := by rw [← hw2]; exact (Below.refl _ _).alloc (Nat.le_refl _) _
              have hB2 := below_step hB1 hb2
              have KZ : Blk w2 w1.heap.size 26 (vCells 0 0 ⟨#[]⟩ none 0 0 none 0 0) := by rw [← hw2]; exact Blk.new w1 _ _
              refine wpOp_does (v := .pointer (some ⟨w1.heap.size, 0, none⟩)) (w' := w2) rfl (by rfl) (by rw [← hw2]; go_simp) ⟨hB2, ?_⟩
              clear hw2
              have hg : wr.heap.size ≤ w1.heap.size := hB1.size
              obtain ⟨g, hgd⟩ : ∃ g, w1.heap.size = g := ⟨_, rfl⟩
              rw [hgd] at KZ hg
              rw [hgd]
              clear hgd hb1 hb2 hB1
              have hNg : N ≤ g := by omega
              obtain ⟨W3, hW3⟩ : ∃ W3, set5 w2 g (.int .i64 0) (.int .i64 0) (.string ⟨#[]⟩) (.slice none 0 0) (.slice none 0 0) = W3 := ⟨_, rfl⟩
              have C3 : Chg [g] w2 W3 := by rw [← hW3]; unfold set5; (repeat' (first | with_reducible exact Chg.refl _ _ | with_reducible refine Chg.alloc ?_ _ | with_reducible refine Chg.drew ?_ | with_reducible refine Chg.drewN ?_ _ | with_reducible refine Chg.set_ ?_ _ _ (by first | (simp; done) | (simp; omega) | omega)))
              have K10 : Blk W3 g 26 (vCells 0 0 ⟨#[]⟩ none 0 0 none 0 0) := by rw [← hW3]; exact set5_blk KZ _ _ _ _ _
              have hB3 : Below wr.heap.size wr W3 := by
                skip
                exact (((Chg.of_below (S := []) hB2).mono (S' := [g]) (by simp)).trans C3 (by simp)).to_below (Nat.le_refl _) (by intro x hx; simp at hx; omega)
              refine wpAnyH_all (rs := [14]) (by kernel_rfl) (by simp) ?_
              intro i0 hi0
              simp only [List.mem_cons, List.mem_nil_iff, or_false] at hi0
              subst hi0
              refine wpOp_skips (w' := W3) rfl (by rfl) (by
                rw [← hW3]
                clear hW3 K10 C3 hB3
                have q0 := KZ.cell 0; have q1 := KZ.cell 1; have q2 := KZ.cell 2; have q3 := KZ.cell 3; have q4 := KZ.cell 4; simp at q0 q1 q2 q3 q4
                have y0 := KZ.frozen 0; have y1 := KZ.frozen 1; have y2 := KZ.frozen 2; have y3 := KZ.frozen 3; have y4 := KZ.frozen 4
                have lz := KZ.lt
                clear KZ
                go_simp) ⟨hB3, ?_⟩
              refine wpAnyH_take (i := 15) (v := .int .i64 E1) rfl (by kernel_rfl) (by kernel_rfl) (by kernel_rfl) (fun _ _ _ h => h) (Or.inl ⟨by rfl, by intro W hW; go_simp⟩) hB3 ?_
              refine wpAnyH_done (by kernel_rfl) ?_ _
              clear hW3 C3 KZ hB2 hD
              have C3 := HP.out.chg.below hB3
              have KR3 := HP.out.res.chg (Chg.of_below (S := []) hB3) (by simp)
              clear hB3 p0 p1 p2 p3 p4 f1 K10
              have HR3 := hide KR3
              have HC3 := hide C3
              have lR := KR3.lt
              have q0 := KR3.cell 0; have q1 := KR3.cell 1; have q2 := KR3.cell 2; have q3 := KR3.cell 3; have q4 := KR3.cell 4; simp at q0 q1 q2 q3 q4
              have y0 := KR3.frozen 0; have y1 := KR3.frozen 1; have y2 := KR3.frozen 2; have y3 := KR3.frozen 3; have y4 := KR3.frozen 4
              clear KR3 C3
              go_wp2_with fail
              refine name_postO fun W4 hW4 => ?_
              have C4 : Chg [w.heap.size + 1] W3 W4 := by subst hW4; (repeat' (first | with_reducible exact Chg.refl _ _ | with_reducible refine Chg.alloc ?_ _ | with_reducible refine Chg.drew ?_ | with_reducible refine Chg.drewN ?_ _ | with_reducible refine Chg.set_ ?_ _ _ (by first | (simp; done) | (simp; omega) | omega)))
              have KR4 : Blk W4 (w.heap.size + 1) 26 (vCells 0 0 ⟨#[]⟩ none 0 0 none 0 0) := by subst hW4; (repeat' (first | with_reducible exact HR3.out | with_reducible exact Blk.new_ (by first | rfl | (simp; done) | (simp; omega)) | with_reducible refine Blk.alloc_ ?_ | with_reducible refine Blk.drew ?_ | with_reducible refine Blk.drewN ?_ _ | with_reducible refine Blk.far_ ?_ (by first | (simp; done) | (simp; omega) | omega) | with_reducible apply Blk.set_eq | rfl))
              clear hW4 q0 q1 q2 q3 q4 y0 y1 y2 y3 y4
              have k0 := KR4.cell 0; have k1 := KR4.cell 1; have k2 := KR4.cell 2; have k3 := KR4.cell 3; have k4 := KR4.cell 4; simp at k0 k1 k2 k3 k4
              clear KR4
              simp [bodyPost, results, Tryz.results8, go_sem, k0, k1, k2, k3, k4]
              rw [hq.out, HDR.out, from_err (step_bad (args_bad hu HY.out hxs.out))]
              exact ⟨_, rfl, rfl, (((HC3.out.mono (S' := [w.heap.size + 1]) (by simp)).trans C4 (by simp)).mono (S' := []) (by intro x hx; simp at hx; subst hx; exact .inr (by omega))).bel⟩
            · obtain ⟨w1, hw1⟩ : ∃ w1, wr.drew.alloc (.cells (vCells 0 0 ⟨#[]⟩ none 0 0 none 0 0) 26) = w1 := ⟨_, rfl⟩
              have hB1 : Below wr.heap.size wr w1 := by rw [← hw1]; exact hD.alloc (Nat.le_refl _) _
              have KZ : Blk w1 wr.heap.size 26 (vCells 0 0 ⟨#[]⟩ none 0 0 none 0 0) := by rw [← hw1]; exact Blk.new wr.drew _ _
              refine wpOp_does (v := .pointer (some ⟨wr.heap.size, 0, none⟩)) (w' := w1) rfl (by rfl) (by rw [← hw1]; go_simp) ⟨hB1, ?_⟩
              clear hw1
              refine wpAnyH_all (rs := [9]) (by kernel_rfl) (by simp) ?_
              intro i0 hi0
              simp only [List.mem_cons, List.mem_nil_iff, or_false] at hi0
              subst hi0
              refine wpOp_enter 24 #[.agg (envCells ⟨kr, ir, sr, ar, nr, cr, br, mr, er⟩ ⟨kd, id, sd, ad, nd, cd, bd, md, ed⟩ av nv cv), .agg #[.int .i64 y.k, .string ⟨y.nm.toArray⟩, .slice a2 y.path.length cp, .int .i64 y.i, .string ⟨y.s.toArray⟩]] rfl (by rfl) (by go_simp) ?_
              refine (cA1.out _ hB1).mono ?_
              rintro e w2 ⟨rfl, hb1⟩
              have hB2 := below_step hB1 hb1
              refine ⟨_, rfl, hB2, ?_⟩
              have KZ := KZ.chg (Chg.of_below (S := []) hb1) (by simp)
              have hg : wr.heap.size ≤ wr.heap.size := Nat.le_refl _
              obtain ⟨g, hgd⟩ : ∃ g, wr.heap.size = g := ⟨_, rfl⟩
              rw [hgd] at KZ hB2 hD
              have hg : wr.heap.size ≤ g := by omega
              rw [hgd]
              clear hb1 hB1
              have hNg : N ≤ g := by omega
              refine wpAnyH_take (i := 10) (v := .tuple #[.agg (vCells 0 0 ⟨#[]⟩ none 0 0 none 0 0), .int .i64 E1]) rfl (by kernel_rfl) (by kernel_rfl) (by kernel_rfl) (fun _ _ _ h => h) (Or.inl ⟨by rfl, by intro W hW; go_simp⟩) hB2 ?_
              refine wpAnyH_take (i := 11) (v := .agg (vCells 0 0 ⟨#[]⟩ none 0 0 none 0 0)) rfl (by kernel_rfl) (by kernel_rfl) (by kernel_rfl) (fun _ _ _ h => h) (Or.inl ⟨by rfl, by intro W hW; go_simp⟩) hB2 ?_
              refine wpAnyH_take (i := 12) (v := .int .i64 E1) rfl (by kernel_rfl) (by kernel_rfl) (by kernel_rfl) (fun _ _ _ h => h) (Or.inl ⟨by rfl, by intro W hW; go_simp⟩) hB2 ?_
              obtain ⟨W3, hW3⟩ : ∃ W3, set5 w2 g (.int .i64 0) (.int .i64 0) (.string ⟨#[]⟩) (.slice none 0 0) (.slice none 0 0) = W3 := ⟨_, rfl⟩
              have C3 : Chg [g] w2 W3 := by rw [← hW3]; unfold set5; (repeat' (first | with_reducible exact Chg.refl _ _ | with_reducible refine Chg.alloc ?_ _ | with_reducible refine Chg.drew ?_ | with_reducible refine Chg.drewN ?_ _ | with_reducible refine Chg.set_ ?_ _ _ (by first | (simp; done) | (simp; omega) | omega)))
              have K10 : Blk W3 g 26 (vCells 0 0 ⟨#[]⟩ none 0 0 none 0 0) := by rw [← hW3]; exact set5_blk KZ _ _ _ _ _
              have hB3 : Below g wr W3 := by
                rw [← hgd] at hB2 ⊢
                exact (((Chg.of_below (S := []) hB2).mono (S' := [g]) (by simp)).trans C3 (by simp)).to_below (Nat.le_refl _) (by intro x hx; simp at hx; omega)
              refine wpAnyH_all (rs := [14]) (by kernel_rfl) (by simp) ?_
              intro i0 hi0
              simp only [List.mem_cons, List.mem_nil_iff, or_false] at hi0
              subst hi0
              refine wpOp_skips (w' := W3) rfl (by rfl) (by
                rw [← hW3]
                clear hW3 K10 C3 hB3
                have q0 := KZ.cell 0; have q1 := KZ.cell 1; have q2 := KZ.cell 2; have q3 := KZ.cell 3; have q4 := KZ.cell 4; simp at q0 q1 q2 q3 q4
                have y0 := KZ.frozen 0; have y1 := KZ.frozen 1; have y2 := KZ.frozen 2; have y3 := KZ.frozen 3; have y4 := KZ.frozen 4
                have lz := KZ.lt
                clear KZ
                go_simp) ⟨hB3, ?_⟩
              refine wpAnyH_take (i := 15) (v := .int .i64 E1) rfl (by kernel_rfl) (by kernel_rfl) (by kernel_rfl) (fun _ _ _ h => h) (Or.inl ⟨by rfl, by intro W hW; go_simp⟩) hB3 ?_
              refine wpAnyH_done (by kernel_rfl) ?_ _
              clear hW3 C3 KZ hB2 hD
              rw [← hgd] at hB3
              clear hgd
              have C3 := HP.out.chg.below hB3
              have KR3 := HP.out.res.chg (Chg.of_below (S := []) hB3) (by simp)
              clear hB3 p0 p1 p2 p3 p4 f1 K10
              have HR3 := hide KR3
              have HC3 := hide C3
              have lR := KR3.lt
              have q0 := KR3.cell 0; have q1 := KR3.cell 1; have q2 := KR3.cell 2; have q3 := KR3.cell 3; have q4 := KR3.cell 4; simp at q0 q1 q2 q3 q4
              have y0 := KR3.frozen 0; have y1 := KR3.frozen 1; have y2 := KR3.frozen 2; have y3 := KR3.frozen 3; have y4 := KR3.frozen 4
              clear KR3 C3
              go_wp2_with fail
              refine name_postO fun W4 hW4 => ?_
              have C4 : Chg [w.heap.size + 1] W3 W4 := by subst hW4; (repeat' (first | with_reducible exact Chg.refl _ _ | with_reducible refine Chg.alloc ?_ _ | with_reducible refine Chg.drew ?_ | with_reducible refine Chg.drewN ?_ _ | with_reducible refine Chg.set_ ?_ _ _ (by first | (simp; done) | (simp; omega) | omega)))
              have KR4 : Blk W4 (w.heap.size + 1) 26 (vCells 0 0 ⟨#[]⟩ none 0 0 none 0 0) := by subst hW4; (repeat' (first | with_reducible exact HR3.out | with_reducible exact Blk.new_ (by first | rfl | (simp; done) | (simp; omega)) | with_reducible refine Blk.alloc_ ?_ | with_reducible refine Blk.drew ?_ | with_reducible refine Blk.drewN ?_ _ | with_reducible refine Blk.far_ ?_ (by first | (simp; done) | (simp; omega) | omega) | with_reducible apply Blk.set_eq | rfl))
              clear hW4 q0 q1 q2 q3 q4 y0 y1 y2 y3 y4
              have k0 := KR4.cell 0; have k1 := KR4.cell 1; have k2 := KR4.cell 2; have k3 := KR4.cell 3; have k4 := KR4.cell 4; simp at k0 k1 k2 k3 k4
              clear KR4
              simp [bodyPost, results, Tryz.results8, go_sem, k0, k1, k2, k3, k4]
              rw [hq.out, HDR.out, from_err (step_bad (args_bad hu HY.out hxs.out))]
              exact ⟨_, rfl, rfl, (((HC3.out.mono (S' := [w.heap.size + 1]) (by simp)).trans C4 (by simp)).mono (S' := []) (by intro x hx; simp at hx; subst hx; exact .inr (by omega))).bel⟩
        · obtain rfl : k = x.args.length := by omega
          have hte : argsR e x.args = (some xs, 0) := by rw [← hxs.out, List.take_of_length_le (Nat.le_refl _)]
          have HGX := hide (args_good HGE.out HGA.out hte).1
          have hxl := (args_good HGE.out HGA.out hte).2
          have HST0 := hide (step_args (last := lst) hte)
          have hif : decide ((x.args.length : Int) < (x.args.length : Int)) = false := by simp
          have hXL := HXL.out
          clear hte hlt2 hkl hxs
          rcases Nat.eq_zero_or_pos j with h0 | h0
          · have hln : lst = none := hj0.out.1 h0
            have hz0' : decide ((0 : Int) < (j : Int)) = false := by simp; omega
            have hz1' : decide (0 < j) = false := by simp; omega
            have hz2' : ¬ (0 < j) := by omega
            obtain ⟨A5, c5, hA5⟩ := HROW.out.slice
            rw [hA5] at HROW
            rw [hA5]
            clear hA5
            have HP5 := HP
            have HR5 := HROW
            obtain ⟨ys, hys⟩ : ∃ ys, xs = ys := ⟨_, rfl⟩
            have HST : Hid (stepR e x lst = if x.nm ≠ [] then callR x.nm ys else lone ys) := hide (by have h := HST0.out; rw [show xs ++ lst.toList = ys by rw [hln, Option.toList_none, List.append_nil, hys]] at h; exact h)
            have HGY : Hid (∀ y ∈ ys, GoodD y) := hide (by rw [← hys]; exact HGX.out)
            rw [hys] at HR5 ⊢
            clear HP HROW HST0 HGX hys hxl hln h0
            have f0 := (cellB (HP5.out.chg.block b hb (by simp)) _).trans hc0
            have hbw := Nat.lt_of_lt_of_le hb HP5.out.chg.size
            by_cases hnm : x.nm = []
            · rw [hnm] at f0
              have e0 : ((⟨#[]⟩ : ByteArray) == ⟨#[]⟩) = true := by decide +kernel
              by_cases hy1 : ys.length = 1
              · obtain ⟨u, rfl⟩ : ∃ u, ys = [u] := by
                  match ys, hy1 with
                  | [u], _ => exact ⟨u, rfl⟩
                have gu := HGY.out u (by simp)
                have hst : stepR e x lst = (some u, 0) := by rw [HST.out, if_neg (by simpa using hnm)]; rfl
                have HSU := hide hst
                clear hst
                obtain ⟨b5, off5, P, C, P2, C2, hA5, hb5, h5, hU⟩ := val_at (HR5.out.vals rfl) (j := 0) rfl
                subst hA5
                rw [Nat.zero_mul, Nat.add_zero] at h5
                obtain ⟨g0, g1, g2, g3, g4⟩ := h5
                have HP6 := HP5
                have HU := hide hU
                have KV := HP5.out.val
                have HV5 := hide KV
                have lV := KV.lt
                have v0 := KV.cell 0; have v1 := KV.cell 1; have v2 := KV.cell 2; have v3 := KV.cell 3; have v4 := KV.cell 4; simp at v0 v1 v2 v3 v4
                have z0 := KV.frozen 0; have z1 := KV.frozen 1; have z2 := KV.frozen 2; have z3 := KV.frozen 3; have z4 := KV.frozen 4
                clear KV hU
                have hlt := HLT.out
                go_wp2_with fail
                go_roundw
                case rel =>
                  refine ⟨j + 1, ⟨u.k, u.i, ⟨u.s.toArray⟩, P, u.l.length, C, P2, u.ks.length, C2⟩, some u, by go_num, by omega, hide (by rw [hq.out, HDR.out, from_step HSU.out]), hide (by simp), ?_⟩
                  refine name_it (C := fun W4 => Hid (PipeI N n w W4 E ⟨u.k, u.i, ⟨u.s.toArray⟩, P, u.l.length, C, P2, u.ks.length, C2⟩ (some u))) fun W4 hW4 => ?_
                  have C4 : Chg [w.heap.size + 2] wr W4 := by subst hW4; (repeat' (first | with_reducible exact Chg.refl _ _ | with_reducible refine Chg.alloc ?_ _ | with_reducible refine Chg.drew ?_ | with_reducible refine Chg.drewN ?_ _ | with_reducible refine Chg.set_ ?_ _ _ (by first | (simp; done) | (simp; omega) | omega)))
                  have KV4 : Blk W4 (w.heap.size + 2) 26 (vCells u.k u.i ⟨u.s.toArray⟩ P u.l.length C P2 u.ks.length C2) := by subst hW4; (repeat' (first | with_reducible exact HV5.out | with_reducible exact Blk.new_ (by first | rfl | (simp; done) | (simp; omega)) | with_reducible refine Blk.alloc_ ?_ | with_reducible refine Blk.drew ?_ | with_reducible refine Blk.drewN ?_ _ | with_reducible refine Blk.far_ ?_ (by first | (simp; done) | (simp; omega) | omega) | with_reducible apply Blk.set_eq | rfl))
                  clear hW4
                  refine hide ⟨?_, HP6.out.env.chg C4 (by simp), HP6.out.res.chg C4 (by simp), KV4, ?_⟩
                  · exact ((HP6.out.chg.mono (S' := [w.heap.size + 2]) (by simp)).trans C4 (by simp)).mono (by intro x hx; simp at hx; subst hx; exact .inr (by omega))
                  · intro y hy
                    injection hy with hy
                    subst hy
                    exact ⟨isV_chg HU.out C4 (by intro x hx; simp at hx; have := HN.out; omega), gu⟩
                case measure => simp [intOf]; omega
              · have hst : stepR e x lst = (none, 9) := by
                  rw [HST.out, if_neg (by simpa using hnm)]
                  match ys, hy1 with
                  | [], _ => rfl
                  | [_], h => exact absurd rfl h
                  | _ :: _ :: _, _ => rfl
                have HSU := hide hst
                clear hst
                obtain ⟨m, hm⟩ : ∃ m, @List.length (VT (n + 1)) ys = m := ⟨_, rfl⟩
                first | rw [hm] | (have hm' : @List.length (VD n) ys = m := hm; rw [hm'])
                have hy1 : ¬ m = 1 := by rw [← hm]; exact hy1
                have hyn1 : ((m : Int) == 1) = false := by simp; omega
                have hyn2 : ((m : Int) != 1) = true := by simp; omega
                have hyn3 : decide ((m : Int) = 1) = false := by simp; omega
                clear hy1
                have C3 := HP5.out.chg
                have KR3 := HP5.out.res
                have HR3 := hide KR3
                have HC3 := hide C3
                have lR := KR3.lt
                have q0 := KR3.cell 0; have q1 := KR3.cell 1; have q2 := KR3.cell 2; have q3 := KR3.cell 3; have q4 := KR3.cell 4; simp at q0 q1 q2 q3 q4
                have y0 := KR3.frozen 0; have y1 := KR3.frozen 1; have y2 := KR3.frozen 2; have y3 := KR3.frozen 3; have y4 := KR3.frozen 4
                clear KR3 C3
                go_wp2_with fail
                refine name_postO fun W4 hW4 => ?_
                have C4 : Chg [w.heap.size + 1] wr W4 := by subst hW4; (repeat' (first | with_reducible exact Chg.refl _ _ | with_reducible refine Chg.alloc ?_ _ | with_reducible refine Chg.drew ?_ | with_reducible refine Chg.drewN ?_ _ | with_reducible refine Chg.set_ ?_ _ _ (by first | (simp; done) | (simp; omega) | omega)))
                have KR4 : Blk W4 (w.heap.size + 1) 26 (vCells 0 0 ⟨#[]⟩ none 0 0 none 0 0) := by subst hW4; (repeat' (first | with_reducible exact HR3.out | with_reducible exact Blk.new_ (by first | rfl | (simp; done) | (simp; omega)) | with_reducible refine Blk.alloc_ ?_ | with_reducible refine Blk.drew ?_ | with_reducible refine Blk.drewN ?_ _ | with_reducible refine Blk.far_ ?_ (by first | (simp; done) | (simp; omega) | omega) | with_reducible apply Blk.set_eq | rfl))
                clear hW4 q0 q1 q2 q3 q4 y0 y1 y2 y3 y4
                have k0 := KR4.cell 0; have k1 := KR4.cell 1; have k2 := KR4.cell 2; have k3 := KR4.cell 3; have k4 := KR4.cell 4; simp at k0 k1 k2 k3 k4
                clear KR4
                simp [bodyPost, results, Tryz.results8, go_sem, k0, k1, k2, k3, k4]
                rw [hq.out, HDR.out, from_err HSU.out]
                exact ⟨_, rfl, rfl, (((HC3.out.mono (S' := [w.heap.size + 1]) (by simp)).trans C4 (by simp)).mono (S' := []) (by intro x hx; simp at hx; subst hx; exact .inr (by omega))).bel⟩
            · obtain ⟨nmB, hnmB⟩ : ∃ nmB : ByteArray, (⟨x.nm.toArray⟩ : ByteArray) = nmB := ⟨_, rfl⟩
              have hnl : nmB.toList = x.nm := by rw [← hnmB, ByteArray.toList_eq]
              have z1 : nmB.toList.isEmpty = false := by rw [hnl]; cases hx : x.nm with | nil => exact absurd hx hnm | cons a b => rfl
              have z2 : (nmB.toList == []) = false := by rw [hnl]; simpa using hnm
              have hst : stepR e x lst = callR x.nm ys := by rw [HST.out, if_pos hnm]
              have cC := hide (fun W (hW : Below wr.heap.size wr W) => cCall_any n N x.nm A5 c5 ys W (by have := HN.out; have := HP5.out.chg.size; have := hW.size; omega) ((HR5.out.below hW).vals rfl) HGY.out)
              rw [hnmB] at f0
              simp only [hnmB] at cC
              clear hnmB hnl
              rcases call_fine x.nm ys HGY.out with ⟨u, hu, gu⟩ | ⟨E1, hu, hE1⟩
              · have HSU := hide (hst.trans hu)
                clear hst
                simp only [hu] at cC
                go_wp2_with fail
                refine (cC.out _ (Below.refl _ _)).mono ?_
                rintro e' w6 ⟨v', rfl, ht, hb6⟩
                obtain ⟨⟨kf, jf, sf, af, nf, cf, bf, mf, ef⟩, rfl⟩ := IsV.shape (show IsV (lowN N) w6 (n + 1) v' u from ht)
                have HP6 := hide (HP5.out.chgd (Chg.of_below (S := []) hb6) HN.out (by intro x hx; cases hx))
                have HU := hide (show IsV (lowN N) w6 (n + 1) _ u from ht)
                clear ht hb6 f0
                have KV := HP6.out.val
                have HV5 := hide KV
                have lV := KV.lt
                have v0 := KV.cell 0; have v1 := KV.cell 1; have v2 := KV.cell 2; have v3 := KV.cell 3; have v4 := KV.cell 4; simp at v0 v1 v2 v3 v4
                have z0 := KV.frozen 0; have z1 := KV.frozen 1; have z2 := KV.frozen 2; have z3 := KV.frozen 3; have z4 := KV.frozen 4
                clear KV
                have hlt := HLT.out
                go_wp2_with fail
                go_roundw
                case rel =>
                  refine ⟨j + 1, ⟨kf, jf, sf, af, nf, cf, bf, mf, ef⟩, some u, by go_num, by omega, hide (by rw [hq.out, HDR.out, from_step HSU.out]), hide (by simp), ?_⟩
                  refine name_it (C := fun W4 => Hid (PipeI N n w W4 E ⟨kf, jf, sf, af, nf, cf, bf, mf, ef⟩ (some u))) fun W4 hW4 => ?_
                  have C4 : Chg [w.heap.size + 2] w6 W4 := by subst hW4; (repeat' (first | with_reducible exact Chg.refl _ _ | with_reducible refine Chg.alloc ?_ _ | with_reducible refine Chg.drew ?_ | with_reducible refine Chg.drewN ?_ _ | with_reducible refine Chg.set_ ?_ _ _ (by first | (simp; done) | (simp; omega) | omega)))
                  have KV4 : Blk W4 (w.heap.size + 2) 26 (vCells kf jf sf af nf cf bf mf ef) := by subst hW4; (repeat' (first | with_reducible exact HV5.out | with_reducible exact Blk.new_ (by first | rfl | (simp; done) | (simp; omega)) | with_reducible refine Blk.alloc_ ?_ | with_reducible refine Blk.drew ?_ | with_reducible refine Blk.drewN ?_ _ | with_reducible refine Blk.far_ ?_ (by first | (simp; done) | (simp; omega) | omega) | with_reducible apply Blk.set_eq | rfl))
                  clear hW4
                  refine hide ⟨?_, HP6.out.env.chg C4 (by simp), HP6.out.res.chg C4 (by simp), KV4, ?_⟩
                  · exact ((HP6.out.chg.mono (S' := [w.heap.size + 2]) (by simp)).trans C4 (by simp)).mono (by intro x hx; simp at hx; subst hx; exact .inr (by omega))
                  · intro y hy
                    injection hy with hy
                    subst hy
                    exact ⟨isV_chg HU.out C4 (by intro x hx; simp at hx; have := HN.out; omega), gu⟩
                case measure => simp [intOf]; omega
              · have HSU := hide (hst.trans hu)
                clear hst
                have eE : (E1 == 0) = false := by simpa using hE1
                have cC1 : Hid (∀ W, Below wr.heap.size wr W → Calls Tryz.prog 25 #[.string nmB, .slice A5 ys.length c5] W fun e w' => e = .returned (.tuple #[.agg (vCells 0 0 ⟨#[]⟩ none 0 0 none 0 0), .int .i64 E1]) ∧ Below W.heap.size W w') := hide (by
                  intro W hW
                  refine (cC.out W hW).mono ?_
                  rintro e' w' ⟨v', rfl, ht, hb⟩
                  rw [hu] at ht
                  have ht3 : v' = zeroV := ht
                  subst ht3
                  exact ⟨by rw [hu]; rfl, hb⟩)
                clear cC
                go_wp2_with fail
                refine (cC1.out _ (Below.refl _ _)).mono ?_
                rintro e' w6 ⟨rfl, hb6⟩
                have C3 := HP5.out.chg.below hb6
                have KR3 := HP5.out.res.chg (Chg.of_below (S := []) hb6) (by simp)
                have KV := HP5.out.val.chg (Chg.of_below (S := []) hb6) (by simp)
                have lV := KV.lt
                have v0 := KV.cell 0; have v1 := KV.cell 1; have v2 := KV.cell 2; have v3 := KV.cell 3; have v4 := KV.cell 4; simp at v0 v1 v2 v3 v4
                have z0 := KV.frozen 0; have z1 := KV.frozen 1; have z2 := KV.frozen 2; have z3 := KV.frozen 3; have z4 := KV.frozen 4
                clear KV hb6 f0 hE1
                have HR3 := hide KR3
                have HC3 := hide C3
                have lR := KR3.lt
                have q0 := KR3.cell 0; have q1 := KR3.cell 1; have q2 := KR3.cell 2; have q3 := KR3.cell 3; have q4 := KR3.cell 4; simp at q0 q1 q2 q3 q4
                have y0 := KR3.frozen 0; have y1 := KR3.frozen 1; have y2 := KR3.frozen 2; have y3 := KR3.frozen 3; have y4 := KR3.frozen 4
                clear KR3 C3
                go_wp2_with fail
                refine name_postO fun W4 hW4 => ?_
                have C4 : Chg [w.heap.size + 1, w.heap.size + 2] w6 W4 := by subst hW4; (repeat' (first | with_reducible exact Chg.refl _ _ | with_reducible refine Chg.alloc ?_ _ | with_reducible refine Chg.drew ?_ | with_reducible refine Chg.drewN ?_ _ | with_reducible refine Chg.set_ ?_ _ _ (by first | (simp; done) | (simp; omega) | omega)))
                have KR4 : Blk W4 (w.heap.size + 1) 26 (vCells 0 0 ⟨#[]⟩ none 0 0 none 0 0) := by subst hW4; (repeat' (first | with_reducible exact HR3.out | with_reducible exact Blk.new_ (by first | rfl | (simp; done) | (simp; omega)) | with_reducible refine Blk.alloc_ ?_ | with_reducible refine Blk.drew ?_ | with_reducible refine Blk.drewN ?_ _ | with_reducible refine Blk.far_ ?_ (by first | (simp; done) | (simp; omega) | omega) | with_reducible apply Blk.set_eq | rfl))
                clear hW4 q0 q1 q2 q3 q4 y0 y1 y2 y3 y4
                have k0 := KR4.cell 0; have k1 := KR4.cell 1; have k2 := KR4.cell 2; have k3 := KR4.cell 3; have k4 := KR4.cell 4; simp at k0 k1 k2 k3 k4
                clear KR4
                simp [bodyPost, results, Tryz.results8, go_sem, k0, k1, k2, k3, k4]
                rw [hq.out, HDR.out, from_err HSU.out]
                exact ⟨_, rfl, rfl, (((HC3.out.mono (S' := [w.heap.size + 1, w.heap.size + 2]) (by simp)).trans C4 (by simp)).mono (S' := []) (by intro x hx; simp at hx; rcases hx with rfl | rfl <;> exact .inr (by omega))).bel⟩
          · obtain ⟨z, hlz⟩ : ∃ z, lst = some z := by
              cases lst with
              | none => exact absurd (hj0.out.2 rfl) (by omega)
              | some z => exact ⟨z, rfl⟩
            have hz0' : decide ((0 : Int) < (j : Int)) = true := by simp; omega
            have hv3 := (HP.out.is z hlz).1
            have gz := (HP.out.is z hlz).2
            have HP3 := HP
            have HRO := HROW
            have hlenE : es.length ≤ 1048576 := by have h1 : es.length = xs.length := HROW.out.len; omega
            have KV3 := HP.out.val
            have lV3 := KV3.lt
            have q0 := KV3.cell 0; have q1 := KV3.cell 1; have q2 := KV3.cell 2; have q3 := KV3.cell 3; have q4 := KV3.cell 4; simp at q0 q1 q2 q3 q4
            clear KV3 HP HROW hxl
            obtain ⟨A0, c0, hA0⟩ := HRO.out.slice
            rw [hA0] at HRO
            have hown := HRO.out.own
            have hbase : w.heap.size + 3 ≤ wr.heap.size := by have := HP3.out.val.lt; omega
            rw [hA0]
            clear hA0
            go_wp2_with (at_builtin; refine wpList_append_lies _ rfl _ _ 23 rfl (w.heap.size + 3) 26 i0 (.agg #[.int .i64 0, .int .i64 0, .string ⟨#[]⟩, .slice none 0 0, .slice none 0 0]) 5 80 Tryz.underlying23 hi hz0 hz1 hz2 rfl (by decide) (.slice A0 xs.length c0) es.length (es.flatMap VF.cells) rfl (hown.alloc _) ⟨wr.heap.size, 0, none⟩ 1 1 [.int .i64 kx, .int .i64 ix, .string sx, .slice ax nx cx, .slice bx mx ex] rfl rfl (by intro j u hj; match j, hj with | 0, hj => (simp at hj; subst hj; simp [Addr.add]) | 1, hj => (simp at hj; subst hj; simp [Addr.add]) | 2, hj => (simp at hj; subst hj; simp [Addr.add]) | 3, hj => (simp at hj; subst hj; simp [Addr.add]) | 4, hj => (simp at hj; subst hj; simp [Addr.add])) (by intro u hu; simp at hu; rcases hu with rfl | rfl | rfl | rfl | rfl <;> rfl) (by omega) (by unfold maxLen; omega) (by omega) (by simp; omega) _ rfl ?_)
            intro g4 cp4 w4 hown4 hgrow4 hat4 hlt4
            have hA4 := (Below.refl wr.heap.size wr).alloc (Nat.le_refl _) (.cells #[.int .i64 kx, .int .i64 ix, .string sx, .slice ax nx cx, .slice bx mx ex] 26)
            have hC4 : Chg (Value.slice A0 xs.length c0).ownBlock.toList wr w4 := ((Chg.refl _ _).below hA4).grown hgrow4 (fun k hk => .inl (by rw [hk]; simp))
            have hS4 : ∀ z ∈ (Value.slice A0 xs.length c0).ownBlock.toList, w.heap.size + 3 ≤ z := by
              intro z hz
              exact (HRO.out.own.lt z (Option.mem_toList.1 hz)).1
            have HR4 := hide (RowL.snoc (e := ⟨kx, ix, sx, ax, nx, cx, bx, mx, ex⟩) HRO.out hv3 (by have := HN.out; omega) hbase hA4 hgrow4 hown4)
            have HP4 := hide (HP3.out.chgd hC4 HN.out hS4)
            have key : ∃ ys : List (VD n), ys = xs ++ [z] ∧ RowL (n + 1) N (w.heap.size + 3) w4 (.slice (some ⟨g4, 0, none⟩) (es.length + 1) cp4) (es ++ [⟨kx, ix, sx, ax, nx, cx, bx, mx, ex⟩]) ys := ⟨xs ++ [z], rfl, HR4.out⟩
            clear HR4
            obtain ⟨ys, hys, hR4⟩ := key
            have HR4 := hide hR4
            clear hR4
            have HP5 := HP4
            have hyl : es.length + 1 = ys.length := by have h1 : es.length = xs.length := HRO.out.len; rw [hys, List.length_append, h1]; rfl
            rw [hyl] at HR4
            rw [hyl]
            obtain ⟨A5, hA5⟩ : ∃ A5, some (⟨g4, 0, none⟩ : Addr) = A5 := ⟨_, rfl⟩
            obtain ⟨c5, hc5⟩ : ∃ c5, cp4 = c5 := ⟨_, rfl⟩
            rw [hA5, hc5] at HR4
            rw [hA5, hc5]
            have HR5 := HR4
            have HST : Hid (stepR e x lst = if x.nm ≠ [] then callR x.nm ys else lone ys) := hide (by have h := HST0.out; rw [show xs ++ lst.toList = ys by rw [hlz, Option.toList_some, ← hys]] at h; exact h)
            have HGY : Hid (∀ y ∈ ys, GoodD y) := hide (by
              rw [hys]
              intro y hy
              rcases List.mem_append.1 hy with h | h
              · exact HGX.out y h
              · rw [List.mem_singleton.1 h]; exact gz)
            clear hown4 hgrow4 hat4 hlt4 hC4 hS4 hA4 hown hv3 gz q0 q1 q2 q3 q4 HRO HP3 HP4 HR4 HST0 HGX hys hyl hA5 hc5 hlz hlenE lV3 hbase
            have f0 := (cellB (HP5.out.chg.block b hb (by simp)) _).trans hc0
            have hbw := Nat.lt_of_lt_of_le hb HP5.out.chg.size
            by_cases hnm : x.nm = []
            · rw [hnm] at f0
              have e0 : ((⟨#[]⟩ : ByteArray) == ⟨#[]⟩) = true := by decide +kernel
              by_cases hy1 : ys.length = 1
              · obtain ⟨u, rfl⟩ : ∃ u, ys = [u] := by
                  match ys, hy1 with
                  | [u], _ => exact ⟨u, rfl⟩
                have gu := HGY.out u (by simp)
                have hst : stepR e x lst = (some u, 0) := by rw [HST.out, if_neg (by simpa using hnm)]; rfl
                have HSU := hide hst
                clear hst
                obtain ⟨b5, off5, P, C, P2, C2, hA5, hb5, h5, hU⟩ := val_at (HR5.out.vals rfl) (j := 0) rfl
                subst hA5
                rw [Nat.zero_mul, Nat.add_zero] at h5
                obtain ⟨g0, g1, g2, g3, g4⟩ := h5
                have HP6 := HP5
                have HU := hide hU
                have KV := HP5.out.val
                have HV5 := hide KV
                have lV := KV.lt
                have v0 := KV.cell 0; have v1 := KV.cell 1; have v2 := KV.cell 2; have v3 := KV.cell 3; have v4 := KV.cell 4; simp at v0 v1 v2 v3 v4
                have z0 := KV.frozen 0; have z1 := KV.frozen 1; have z2 := KV.frozen 2; have z3 := KV.frozen 3; have z4 := KV.frozen 4
                clear KV hU
                have hlt := HLT.out
                go_wp2_with fail
                go_roundw
                case rel =>
                  refine ⟨j + 1, ⟨u.k, u.i, ⟨u.s.toArray⟩, P, u.l.length, C, P2, u.ks.length, C2⟩, some u, by go_num, by omega, hide (by rw [hq.out, HDR.out, from_step HSU.out]), hide (by simp), ?_⟩
                  refine name_it (C := fun W4 => Hid (PipeI N n w W4 E ⟨u.k, u.i, ⟨u.s.toArray⟩, P, u.l.length, C, P2, u.ks.length, C2⟩ (some u))) fun W4 hW4 => ?_
                  have C4 : Chg [w.heap.size + 2] w4 W4 := by subst hW4; (repeat' (first | with_reducible exact Chg.refl _ _ | with_reducible refine Chg.alloc ?_ _ | with_reducible refine Chg.drew ?_ | with_reducible refine Chg.drewN ?_ _ | with_reducible refine Chg.set_ ?_ _ _ (by first | (simp; done) | (simp; omega) | omega)))
                  have KV4 : Blk W4 (w.heap.size + 2) 26 (vCells u.k u.i ⟨u.s.toArray⟩ P u.l.length C P2 u.ks.length C2) := by subst hW4; (repeat' (first | with_reducible exact HV5.out | with_reducible exact Blk.new_ (by first | rfl | (simp; done) | (simp; omega)) | with_reducible refine Blk.alloc_ ?_ | with_reducible refine Blk.drew ?_ | with_reducible refine Blk.drewN ?_ _ | with_reducible refine Blk.far_ ?_ (by first | (simp; done) | (simp; omega) | omega) | with_reducible apply Blk.set_eq | rfl))
                  clear hW4
                  refine hide ⟨?_, HP6.out.env.chg C4 (by simp), HP6.out.res.chg C4 (by simp), KV4, ?_⟩
                  · exact ((HP6.out.chg.mono (S' := [w.heap.size + 2]) (by simp)).trans C4 (by simp)).mono (by intro x hx; simp at hx; subst hx; exact .inr (by omega))
                  · intro y hy
                    injection hy with hy
                    subst hy
                    exact ⟨isV_chg HU.out C4 (by intro x hx; simp at hx; have := HN.out; omega), gu⟩
                case measure => simp [intOf]; omega
              · have hst : stepR e x lst = (none, 9) := by
                  rw [HST.out, if_neg (by simpa using hnm)]
                  match ys, hy1 with
                  | [], _ => rfl
                  | [_], h => exact absurd rfl h
                  | _ :: _ :: _, _ => rfl
                have HSU := hide hst
                clear hst
                obtain ⟨m, hm⟩ : ∃ m, @List.length (VT (n + 1)) ys = m := ⟨_, rfl⟩
                first | rw [hm] | (have hm' : @List.length (VD n) ys = m := hm; rw [hm'])
                have hy1 : ¬ m = 1 := by rw [← hm]; exact hy1
                have hyn1 : ((m : Int) == 1) = false := by simp; omega
                have hyn2 : ((m : Int) != 1) = true := by simp; omega
                have hyn3 : decide ((m : Int) = 1) = false := by simp; omega
                clear hy1
                have C3 := HP5.out.chg
                have KR3 := HP5.out.res
                have HR3 := hide KR3
                have HC3 := hide C3
                have lR := KR3.lt
                have q0 := KR3.cell 0; have q1 := KR3.cell 1; have q2 := KR3.cell 2; have q3 := KR3.cell 3; have q4 := KR3.cell 4; simp at q0 q1 q2 q3 q4
                have y0 := KR3.frozen 0; have y1 := KR3.frozen 1; have y2 := KR3.frozen 2; have y3 := KR3.frozen 3; have y4 := KR3.frozen 4
                clear KR3 C3
                go_wp2_with fail
                refine name_postO fun W4 hW4 => ?_
                have C4 : Chg [w.heap.size + 1] w4 W4 := by subst hW4; (repeat' (first | with_reducible exact Chg.refl _ _ | with_reducible refine Chg.alloc ?_ _ | with_reducible refine Chg.drew ?_ | with_reducible refine Chg.drewN ?_ _ | with_reducible refine Chg.set_ ?_ _ _ (by first | (simp; done) | (simp; omega) | omega)))
                have KR4 : Blk W4 (w.heap.size + 1) 26 (vCells 0 0 ⟨#[]⟩ none 0 0 none 0 0) := by subst hW4; (repeat' (first | with_reducible exact HR3.out | with_reducible exact Blk.new_ (by first | rfl | (simp; done) | (simp; omega)) | with_reducible refine Blk.alloc_ ?_ | with_reducible refine Blk.drew ?_ | with_reducible refine Blk.drewN ?_ _ | with_reducible refine Blk.far_ ?_ (by first | (simp; done) | (simp; omega) | omega) | with_reducible apply Blk.set_eq | rfl))
                clear hW4 q0 q1 q2 q3 q4 y0 y1 y2 y3 y4
                have k0 := KR4.cell 0; have k1 := KR4.cell 1; have k2 := KR4.cell 2; have k3 := KR4.cell 3; have k4 := KR4.cell 4; simp at k0 k1 k2 k3 k4
                clear KR4
                simp [bodyPost, results, Tryz.results8, go_sem, k0, k1, k2, k3, k4]
                rw [hq.out, HDR.out, from_err HSU.out]
                exact ⟨_, rfl, rfl, (((HC3.out.mono (S' := [w.heap.size + 1]) (by simp)).trans C4 (by simp)).mono (S' := []) (by intro x hx; simp at hx; subst hx; exact .inr (by omega))).bel⟩
            · obtain ⟨nmB, hnmB⟩ : ∃ nmB : ByteArray, (⟨x.nm.toArray⟩ : ByteArray) = nmB := ⟨_, rfl⟩
              have hnl : nmB.toList = x.nm := by rw [← hnmB, ByteArray.toList_eq]
              have z1 : nmB.toList.isEmpty = false := by rw [hnl]; cases hx : x.nm with | nil => exact absurd hx hnm | cons a b => rfl
              have z2 : (nmB.toList == []) = false := by rw [hnl]; simpa using hnm
              have hst : stepR e x lst = callR x.nm ys := by rw [HST.out, if_pos hnm]
              have cC := hide (fun W (hW : Below w4.heap.size w4 W) => cCall_any n N x.nm A5 c5 ys W (by have := HN.out; have := HP5.out.chg.size; have := hW.size; omega) ((HR5.out.below hW).vals rfl) HGY.out)
              rw [hnmB] at f0
              simp only [hnmB] at cC
              clear hnmB hnl
              rcases call_fine x.nm ys HGY.out with ⟨u, hu, gu⟩ | ⟨E1, hu, hE1⟩
              · have HSU := hide (hst.trans hu)
                clear hst
                simp only [hu] at cC
                go_wp2_with fail
                refine (cC.out _ (Below.refl _ _)).mono ?_
                rintro e' w6 ⟨v', rfl, ht, hb6⟩
                obtain ⟨⟨kf, jf, sf, af, nf, cf, bf, mf, ef⟩, rfl⟩ := IsV.shape (show IsV (lowN N) w6 (n + 1) v' u from ht)
                have HP6 := hide (HP5.out.chgd (Chg.of_below (S := []) hb6) HN.out (by intro x hx; cases hx))
                have HU := hide (show IsV (lowN N) w6 (n + 1) _ u from ht)
                clear ht hb6 f0
                have KV := HP6.out.val
                have HV5 := hide KV
                have lV := KV.lt
                have v0 := KV.cell 0; have v1 := KV.cell 1; have v2 := KV.cell 2; have v3 := KV.cell 3; have v4 := KV.cell 4; simp at v0 v1 v2 v3 v4
                have z0 := KV.frozen 0; have z1 := KV.frozen 1; have z2 := KV.frozen 2; have z3 := KV.frozen 3; have z4 := KV.frozen 4
                clear KV
                have hlt := HLT.out
                go_wp2_with fail
                go_roundw
                case rel =>
                  refine ⟨j + 1, ⟨kf, jf, sf, af, nf, cf, bf, mf, ef⟩, some u, by go_num, by omega, hide (by rw [hq.out, HDR.out, from_step HSU.out]), hide (by simp), ?_⟩
                  refine name_it (C := fun W4 => Hid (PipeI N n w W4 E ⟨kf, jf, sf, af, nf, cf, bf, mf, ef⟩ (some u))) fun W4 hW4 => ?_
                  have C4 : Chg [w.heap.size + 2] w6 W4 := by subst hW4; (repeat' (first | with_reducible exact Chg.refl _ _ | with_reducible refine Chg.alloc ?_ _ | with_reducible refine Chg.drew ?_ | with_reducible refine Chg.drewN ?_ _ | with_reducible refine Chg.set_ ?_ _ _ (by first | (simp; done) | (simp; omega) | omega)))
                  have KV4 : Blk W4 (w.heap.size + 2) 26 (vCells kf jf sf af nf cf bf mf ef) := by subst hW4; (repeat' (first | with_reducible exact HV5.out | with_reducible exact Blk.new_ (by first | rfl | (simp; done) | (simp; omega)) | with_reducible refine Blk.alloc_ ?_ | with_reducible refine Blk.drew ?_ | with_reducible refine Blk.drewN ?_ _ | with_reducible refine Blk.far_ ?_ (by first | (simp; done) | (simp; omega) | omega) | with_reducible apply Blk.set_eq | rfl))
                  clear hW4
                  refine hide ⟨?_, HP6.out.env.chg C4 (by simp), HP6.out.res.chg C4 (by simp), KV4, ?_⟩
                  · exact ((HP6.out.chg.mono (S' := [w.heap.size + 2]) (by simp)).trans C4 (by simp)).mono (by intro x hx; simp at hx; subst hx; exact .inr (by omega))
                  · intro y hy
                    injection hy with hy
                    subst hy
                    exact ⟨isV_chg HU.out C4 (by intro x hx; simp at hx; have := HN.out; omega), gu⟩
                case measure => simp [intOf]; omega
              · have HSU := hide (hst.trans hu)
                clear hst
                have eE : (E1 == 0) = false := by simpa using hE1
                have cC1 : Hid (∀ W, Below w4.heap.size w4 W → Calls Tryz.prog 25 #[.string nmB, .slice A5 ys.length c5] W fun e w' => e = .returned (.tuple #[.agg (vCells 0 0 ⟨#[]⟩ none 0 0 none 0 0), .int .i64 E1]) ∧ Below W.heap.size W w') := hide (by
                  intro W hW
                  refine (cC.out W hW).mono ?_
                  rintro e' w' ⟨v', rfl, ht, hb⟩
                  rw [hu] at ht
                  have ht3 : v' = zeroV := ht
                  subst ht3
                  exact ⟨by rw [hu]; rfl, hb⟩)
                clear cC
                go_wp2_with fail
                refine (cC1.out _ (Below.refl _ _)).mono ?_
                rintro e' w6 ⟨rfl, hb6⟩
                have C3 := HP5.out.chg.below hb6
                have KR3 := HP5.out.res.chg (Chg.of_below (S := []) hb6) (by simp)
                have KV := HP5.out.val.chg (Chg.of_below (S := []) hb6) (by simp)
                have lV := KV.lt
                have v0 := KV.cell 0; have v1 := KV.cell 1; have v2 := KV.cell 2; have v3 := KV.cell 3; have v4 := KV.cell 4; simp at v0 v1 v2 v3 v4
                have z0 := KV.frozen 0; have z1 := KV.frozen 1; have z2 := KV.frozen 2; have z3 := KV.frozen 3; have z4 := KV.frozen 4
                clear KV hb6 f0 hE1
                have HR3 := hide KR3
                have HC3 := hide C3
                have lR := KR3.lt
                have q0 := KR3.cell 0; have q1 := KR3.cell 1; have q2 := KR3.cell 2; have q3 := KR3.cell 3; have q4 := KR3.cell 4; simp at q0 q1 q2 q3 q4
                have y0 := KR3.frozen 0; have y1 := KR3.frozen 1; have y2 := KR3.frozen 2; have y3 := KR3.frozen 3; have y4 := KR3.frozen 4
                clear KR3 C3
                go_wp2_with fail
                refine name_postO fun W4 hW4 => ?_
                have C4 : Chg [w.heap.size + 1, w.heap.size + 2] w6 W4 := by subst hW4; (repeat' (first | with_reducible exact Chg.refl _ _ | with_reducible refine Chg.alloc ?_ _ | with_reducible refine Chg.drew ?_ | with_reducible refine Chg.drewN ?_ _ | with_reducible refine Chg.set_ ?_ _ _ (by first | (simp; done) | (simp; omega) | omega)))
                have KR4 : Blk W4 (w.heap.size + 1) 26 (vCells 0 0 ⟨#[]⟩ none 0 0 none 0 0) := by subst hW4; (repeat' (first | with_reducible exact HR3.out | with_reducible exact Blk.new_ (by first | rfl | (simp; done) | (simp; omega)) | with_reducible refine Blk.alloc_ ?_ | with_reducible refine Blk.drew ?_ | with_reducible refine Blk.drewN ?_ _ | with_reducible refine Blk.far_ ?_ (by first | (simp; done) | (simp; omega) | omega) | with_reducible apply Blk.set_eq | rfl))
                clear hW4 q0 q1 q2 q3 q4 y0 y1 y2 y3 y4
                have k0 := KR4.cell 0; have k1 := KR4.cell 1; have k2 := KR4.cell 2; have k3 := KR4.cell 3; have k4 := KR4.cell 4; simp at k0 k1 k2 k3 k4
                clear KR4
                simp [bodyPost, results, Tryz.results8, go_sem, k0, k1, k2, k3, k4]
                rw [hq.out, HDR.out, from_err HSU.out]
                exact ⟨_, rfl, rfl, (((HC3.out.mono (S' := [w.heap.size + 1, w.heap.size + 2]) (by simp)).trans C4 (by simp)).mono (S' := []) (by intro x hx; simp at hx; rcases hx with rfl | rfl <;> exact .inr (by omega))).bel⟩
    · obtain rfl : j = l.length := by omega
      have hif : decide ((l.length : Int) < (l.length : Int)) = false := by simp
      obtain ⟨z, hlz⟩ : ∃ z, lst = some z := by
        cases lst with
        | none => exact absurd (hj0.out.2 rfl) (by omega)
        | some z => exact ⟨z, rfl⟩
      have hte := hide (show pipeFrom e l none = (some z, 0) by rw [hq.out, List.drop_length, hlz]; rfl)
      have HZ := hide (hI.out.is z hlz).1
      clear hlt hjl hlz
      have KV3 := hI.out.val
      have lV := KV3.lt
      have v0 := KV3.cell 0; have v1 := KV3.cell 1; have v2 := KV3.cell 2; have v3 := KV3.cell 3; have v4 := KV3.cell 4; simp at v0 v1 v2 v3 v4
      have KR3 := hI.out.res
      have HR3 := hide KR3
      have lR := KR3.lt
      have q0 := KR3.cell 0; have q1 := KR3.cell 1; have q2 := KR3.cell 2; have q3 := KR3.cell 3; have q4 := KR3.cell 4; simp at q0 q1 q2 q3 q4
      have y0 := KR3.frozen 0; have y1 := KR3.frozen 1; have y2 := KR3.frozen 2; have y3 := KR3.frozen 3; have y4 := KR3.frozen 4
      clear KR3 KV3
      go_wp2_with fail
      refine name_postO fun W4 hW4 => ?_
      have C4 : Chg [w.heap.size + 1] wr W4 := by subst hW4; (repeat' (first | with_reducible exact Chg.refl _ _ | with_reducible refine Chg.alloc ?_ _ | with_reducible refine Chg.drew ?_ | with_reducible refine Chg.drewN ?_ _ | with_reducible refine Chg.set_ ?_ _ _ (by first | (simp; done) | (simp; omega) | omega)))
      have KR4 : Blk W4 (w.heap.size + 1) 26 (vCells kx ix sx ax nx cx bx mx ex) := by subst hW4; (repeat' (first | with_reducible exact HR3.out | with_reducible exact Blk.new_ (by first | rfl | (simp; done) | (simp; omega)) | with_reducible refine Blk.alloc_ ?_ | with_reducible refine Blk.drew ?_ | with_reducible refine Blk.drewN ?_ _ | with_reducible refine Blk.far_ ?_ (by first | (simp; done) | (simp; omega) | omega) | with_reducible apply Blk.set_eq | rfl))
      clear hW4 q0 q1 q2 q3 q4 y0 y1 y2 y3 y4 v0 v1 v2 v3 v4
      have k0 := KR4.cell 0; have k1 := KR4.cell 1; have k2 := KR4.cell 2; have k3 := KR4.cell 3; have k4 := KR4.cell 4; simp at k0 k1 k2 k3 k4
      clear KR4
      simp [bodyPost, results, Tryz.results8, go_sem, k0, k1, k2, k3, k4]
      rw [hte.out]
      exact ⟨_, rfl, isV_chg HZ.out C4 (by intro x hx; simp at hx; have := HN.out; omega), (((hI.out.chg.mono (S' := [w.heap.size + 1]) (by simp)).trans C4 (by simp)).mono (S' := []) (by intro x hx; simp at hx; subst hx; exact .inr (by omega))).bel⟩
theorem cPipe_any (n N : Nat) (e : EnvD n) (r d : VF) (av : Option Addr) (cv : Nat) (a : Option Addr) (c : Nat) (l : List CallD) (w : World) (hN : N ≤ w.heap.size) (hE : EnvP n (lowN N) w r d av e) (hL : AtR CallR 2 (lowN N) w a l) (ge : GoodE e) (hm : sumBy massC l ≤ 1048576) (hn : ∀ x ∈ l, numC x) (hvl : e.vars.length ≤ 1048576) :
    Calls Tryz.prog 8 #[.agg (envCells r d av e.vars.length cv), .slice a l.length c] w fun f w' => TellsR N n w (pipeR e l) f w' := by
  by_cases h0 : l = []
  · subst h0
    rw [show pipeR e [] = (none, 9) by simp [pipeR]]
    exact (cPipe_nil r d av _ cv a c w).mono fun f w' h => tells_err h
  · rw [show pipeR e l = pipeFrom e l none by simp [pipeR, h0]]
    exact cPipe_cons n N e r d av cv a c l w h0 hN hE hL ge hm hn hvl
end Go.Proofs.YtnepogddjinpoaaGreatDoor
