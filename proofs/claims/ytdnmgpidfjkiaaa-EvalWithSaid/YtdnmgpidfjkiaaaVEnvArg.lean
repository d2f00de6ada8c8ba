/-
  An environment as an argument: opened; a value opened at whatever greater depth.
-/
import Derived.Test.YtdnmgpidfjkiaaaVArg
import Derived.Test.YtdnmgpidfjkiaaaVEnv
namespace Go.Proofs.Ytdnmgpidfjkiaaa
open Go.ChangeShapes Go.WideShapes Go.ChangeAt Go.RowKit Go.Joins Go.Deep
set_option linter.unusedVariables false
set_option linter.unusedSimpArgs false
set_option linter.unnecessarySimpa false

section
variable {H : Type} {enc : TypeId × Value → H}
set_option maxRecDepth 100000 in
theorem open_valueM {w : World} {r : Reach} {b0 : Nat} {v : Value} {d : DataW H} {p : List MemPlace} (hv : Value.okWide Try.prog w r b0 25 v) (h : DataW.Trod enc Try.prog w 0 (fun _ => true) true 25 v d p) :
    ∃ n : Nat, ∀ m, n ≤ m → ∃ t : VT m, IsV anyB w m v t ∧ ((∀ z ∈ d.weights Try.prog 25, z ≤ 140737488351232) → SmallV m t) := by
  obtain ⟨cs, rfl, hsz⟩ := okWide_struct Try.underlying25 hv
  obtain ⟨l⟩ := cs
  obtain ⟨fuel, hf⟩ := h
  refine ⟨fuel, fun m hm => ?_⟩
  obtain ⟨t, h1, _, h3⟩ := open_trod fuel m hm l _ hf
  exact ⟨t, h1, h3⟩
set_option maxRecDepth 100000 in
theorem open_named {w : World} {fuel m : Nat} (hm : fuel ≤ m) (cs : List Value) (x : DataW H × List MemPlace) (h : DataW.trod enc Try.prog w 0 (fun _ => true) true fuel 57 cs = some x) :
    ∃ (e : NF) (y : List UInt8 × VT m), cs = e.cells ∧ IsN anyB w m e y ∧ ((∀ z ∈ x.1.weights Try.prog 57, z ≤ 140737488351232) → SmallV m y.2) := by
  have hC : Try.prog.cellsOf 57 = 6 := by kernel_rfl
  have c1 : Try.prog.cellsOf 9 = 1 := by kernel_rfl
  have c2 : Try.prog.cellsOf 25 = 5 := by kernel_rfl
  obtain ⟨xs, n, hfu, hx, hcl, hlen, hg⟩ := DataW.trod_struct Try.underlying57 h
  rw [hC] at hcl
  match cs, hcl, xs, hlen with
  | [v0, v1, v2, v3, v4, v5], _, [y0, y1], _ =>
    have g0 := hg 0 _ rfl
    have g1 := hg 1 _ rfl
    simp [c1, c2] at g0 g1
    obtain ⟨s, e0, d0, _⟩ := DataW.trod_string Try.underlying9 g0
    simp at e0
    subst e0
    obtain ⟨d, hd, _, hd3⟩ := open_trod n m (by omega) _ _ g1
    obtain ⟨f, hf⟩ := hd.shape
    have hf2 := hf
    simp [VF.val, valV] at hf2
    obtain ⟨f0, f1, f2, f3, f4⟩ := hf2
    subst f0; subst f1; subst f2; subst f3; subst f4
    refine ⟨⟨s, f⟩, (s.data.toList, d), rfl, ⟨by cases s; simp, hd⟩, fun hR => hd3 fun z hz => hR z ?_⟩
    have hxe : x.1 = .agg [y0.1, y1.1] := by rw [hx]; rfl
    rw [hxe]
    simp only [DataW.weights, Try.underlying57, List.map_cons, List.map_nil, DataW.weightsEach, List.mem_append, List.append_nil]
    exact .inr hz
set_option maxRecDepth 100000 in
theorem open_vars {w : World} {fuel m : Nat} (hm : fuel ≤ m) (cs : List Value) (x : DataW H × List MemPlace) (h : DataW.trod enc Try.prog w 0 (fun _ => true) true fuel 26 cs = some x) :
    ∃ (a : Option Addr) (c : Nat) (l : List (List UInt8 × VT m)), cs = [.slice a l.length c] ∧ NamesAt anyB w m a l ∧ ((∀ z ∈ x.1.weights Try.prog 26, z ≤ 140737488351232) → l.length * 96 ≤ 140737488351232 ∧ ∀ y ∈ l, SmallV m y.2) := by
  have hC : Try.prog.cellsOf 57 = 6 := by kernel_rfl
  rcases DataW.trod_slice Try.underlying26 h with ⟨rfl, rfl⟩ | ⟨a, len, cap, elems, rest, n2, hn2, e3, hy3, _, hl, _, hln, hel, _, _⟩
  · exact ⟨none, 0, [], rfl, fun j y hy => by simp at hy, fun _ => ⟨by simp, fun y hy => by cases hy⟩⟩
  · subst e3
    rw [hC] at hel
    have each : ∀ r, r < len → ∃ y : List UInt8 × VT m, (∃ e : NF, (∀ b off, a = ⟨b, off, none⟩ → w.cell? ⟨b, off + r * 6, none⟩ = some (.string e.nm) ∧ Five w b (off + r * 6 + 1) e.f.k e.f.i e.f.s e.f.a e.f.n e.f.c e.f.a2 e.f.n2 e.f.c2) ∧ w.cell? (a.add (r * 6)) = some (.string e.nm) ∧ IsN anyB w m e y) ∧ ((∀ z ∈ x.1.weights Try.prog 26, z ≤ 140737488351232) → SmallV m y.2) := by
      intro r hr
      have h1 := hel r hr
      have hie : r < elems.length := by omega
      rw [List.getElem?_eq_getElem hie] at h1
      obtain ⟨cs', h2, h3⟩ := Option.bind_eq_some_iff.1 h1
      obtain ⟨_, hl2, hc⟩ := World.cells?_some h2
      obtain ⟨e, y, rfl, hN, hS⟩ := open_named (m := m) (by omega) cs' _ h3
      have k0 := hc 0 (by simp [NF.cells]); have k1 := hc 1 (by simp [NF.cells]); have k2 := hc 2 (by simp [NF.cells]); have k3 := hc 3 (by simp [NF.cells]); have k4 := hc 4 (by simp [NF.cells]); have k5 := hc 5 (by simp [NF.cells])
      rw [add_add] at k0 k1 k2 k3 k4 k5
      simp [NF.cells] at k0 k1 k2 k3 k4 k5
      refine ⟨y, ⟨e, ?_, k0, hN⟩, fun hh => hS fun q hq => hh q ?_⟩
      rotate_left
      · rw [hy3]
        simp only [DataW.weights, Try.underlying26, List.mem_cons, List.mem_append]
        exact .inr (.inl (weights_all _ _ (List.mem_map.2 ⟨_, List.getElem_mem hie, rfl⟩) q hq))
      intro b off he
      subst he
      rw [add_plain] at k0 k1 k2 k3 k4 k5
      exact ⟨k0, ⟨by simpa [Nat.add_assoc] using k1, by simpa [Nat.add_assoc] using k2, by simpa [Nat.add_assoc] using k3, by simpa [Nat.add_assoc] using k4, by simpa [Nat.add_assoc] using k5⟩⟩
    obtain ⟨l, hll, hp⟩ := pick_list len each
    refine ⟨some a, cap, l, by rw [hll], ?_, fun hR => ?_⟩
    · intro r y hy
      obtain ⟨⟨e, h5, hc0, hN⟩, _⟩ := hp r y hy
      have hj : r < l.length := (List.getElem?_eq_some_iff.1 hy).1
      obtain ⟨⟨_, _, h0, _⟩, _⟩ := hp 0 (l[0]'(by omega)) (List.getElem?_eq_getElem (by omega))
      rw [Nat.zero_mul] at h0
      obtain ⟨b, off, rfl⟩ := plain_of_cell h0
      obtain ⟨q0, q5⟩ := h5 b off rfl
      rw [add_plain] at hc0
      exact ⟨b, off, e, rfl, lt_of_cell hc0, trivial, q0, q5, hN⟩
    · have hby : Try.prog.bytesOf 57 = 96 := by kernel_rfl
      have h3l := hR (((elems.map (·.1)).length + (rest.map (·.1)).length) * Try.prog.bytesOf 57) (by rw [hy3]; simp only [DataW.weights, Try.underlying26, List.mem_cons, true_or])
      rw [hby] at h3l
      simp at h3l
      refine ⟨by omega, ?_⟩
      intro z hz
      obtain ⟨j, hj, e⟩ := List.getElem_of_mem hz
      exact (hp j z (by rw [List.getElem?_eq_getElem hj, e])).2 hR
set_option maxRecDepth 100000 in
theorem open_env {w : World} {r : Reach} {b0 : Nat} {v : Value} {d : DataW H} {p : List MemPlace} (hv : Value.okWide Try.prog w r b0 28 v) (h : DataW.Trod enc Try.prog w 0 (fun _ => true) true 28 v d p) :
    ∃ n : Nat, ∀ m, n ≤ m → ∃ (r d' : VF) (a : Option Addr) (c : Nat) (root dot : VT m) (vars : List (List UInt8 × VT m)), v = .agg (envV r d' a vars.length c) ∧ IsE anyB w m r d' a root dot vars ∧ ((∀ z ∈ d.weights Try.prog 28, z ≤ 140737488351232) → SmallE m root dot vars) := by
  have hC : Try.prog.cellsOf 28 = 11 := by kernel_rfl
  have c1 : Try.prog.cellsOf 25 = 5 := by kernel_rfl
  have c2 : Try.prog.cellsOf 26 = 1 := by kernel_rfl
  obtain ⟨cs, rfl, hsz⟩ := okWide_struct Try.underlying28 hv
  obtain ⟨l⟩ := cs
  obtain ⟨fuel, hf⟩ := h
  have hf' : DataW.trod enc Try.prog w 0 (fun _ => true) true fuel 28 l = some (d, p) := hf
  clear hf hsz
  refine ⟨fuel, fun m hm => ?_⟩
  obtain ⟨xs, n, hfu, hx, hcl, hlen, hg⟩ := DataW.trod_struct Try.underlying28 hf'
  rw [hC] at hcl
  match l, hcl, xs, hlen with
  | [v0, v1, v2, v3, v4, v5, v6, v7, v8, v9, v10], _, [y0, y1, y2], _ =>
    have g0 := hg 0 _ rfl
    have g1 := hg 1 _ rfl
    have g2 := hg 2 _ rfl
    simp [c1, c2] at g0 g1 g2
    obtain ⟨t0, hd0, _, hs0⟩ := open_trod n m (by omega) _ _ g0
    obtain ⟨t1, hd1, _, hs1⟩ := open_trod n m (by omega) _ _ g1
    obtain ⟨a, c, vars, e2, hN, hs2⟩ := open_vars (m := m) (by omega) _ _ g2
    obtain ⟨f, hf0⟩ := hd0.shape
    obtain ⟨f', hf1⟩ := hd1.shape
    have hh0 := hf0; have hh1 := hf1
    simp [VF.val, valV] at hh0 hh1
    obtain ⟨a0, a1, a2, a3, a4⟩ := hh0
    obtain ⟨a5, a6, a7, a8, a9⟩ := hh1
    simp at e2
    subst a0; subst a1; subst a2; subst a3; subst a4; subst a5; subst a6; subst a7; subst a8; subst a9; subst e2
    have hxe : d = .agg [y0.1, y1.1, y2.1] := by have := congrArg Prod.fst hx; simpa using this
    refine ⟨f, f', a, c, t0, t1, vars, rfl, ⟨hd0, hd1, hN⟩, fun hR => ?_⟩
    have hw : ∀ z, (z ∈ y0.1.weights Try.prog 25 ∨ z ∈ y1.1.weights Try.prog 25 ∨ z ∈ y2.1.weights Try.prog 26) → z ≤ 140737488351232 := by
      intro z hz
      refine hR z ?_
      rw [hxe]
      simp only [DataW.weights, Try.underlying28, List.map_cons, List.map_nil, DataW.weightsEach, List.mem_append, List.append_nil]
      exact hz
    obtain ⟨q1, q2⟩ := hs2 fun z hz => hw z (.inr (.inr hz))
    exact ⟨hs0 fun z hz => hw z (.inl hz), hs1 fun z hz => hw z (.inr (.inl hz)), q1, q2⟩
end
set_option maxRecDepth 100000 in
/-- An environment behind the call. -/
theorem again_env {H : Type} {enc : TypeId × Value → H} {W W' : World} {v : Value} {d : DataW H} {ps : List MemPlace} (h : DataW.Trod enc Try.prog W 0 (fun _ => true) true 28 v d ps) (hb : Below W.heap.size W W') (hlt : ∀ x ∈ ps, x.block < W.heap.size) (sp : Nat → Bool) (hsp : ∀ x ∈ ps, sp x.block = true) :
    DataW.Trod enc Try.prog W' 0 sp true 28 v d ps :=
  WideElems.Trod_stays laidOutV (by kernel_rfl) (of_decide_eq_true (by kernel_rfl)) h (fun x hx => hb.same (hlt x hx)) hsp
end Go.Proofs.Ytdnmgpidfjkiaaa
