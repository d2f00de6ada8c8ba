/-
  Values: how much they hold; a value as an argument with its mass.
-/
import Derived.Test.YtdnmgpidfjkiaaaDoorVArg
import Derived.Test.YtdnmgpidfjkiaaaDoorM2
namespace Go.Proofs.YtdnmgpidfjkiaaaDoor
open Go.ChangeShapes Go.WideShapes Go.ChangeAt Go.RowKit Go.Joins Go.Deep
set_option linter.unusedVariables false

theorem bulk_map {H : Type} : ∀ (l : List (DataW H × List MemPlace)), Rows.uptoBulkAll (l.map (·.1)) = sumBy (fun e => Rows.uptoBulk e.1) l := by
  intro l
  induction l with
  | nil => rfl
  | cons x l ih => simp only [List.map_cons, Rows.uptoBulkAll, sumBy, ih]
section
variable {H : Type} {enc : TypeId × Value → H}
theorem open_keys_mass {w : World} {fuel : Nat} {cs : List Value} {x : DataW H × List MemPlace} (h : DataW.trod enc Tryd.prog w 0 (fun _ => true) true fuel 24 cs = some x) :
    ∃ (a : Option Addr) (c : Nat) (ks : List (List UInt8)), cs = [.slice a ks.length c] ∧ StrsAt anyB w a ks ∧ sumBy (fun k => k.length + 1) ks + 1 ≤ Rows.uptoBulk x.1 := by
  rcases DataW.trod_slice Tryd.underlying24 h with ⟨rfl, rfl⟩ | ⟨a, len, cap, elems, rest, n, rfl, rfl, rfl, _, hl, _, hlen, hel, _, _⟩
  · exact ⟨none, 0, [], rfl, fun j x hx => by simp at hx, by simp [sumBy, Rows.uptoBulk]⟩
  · have c1 : Tryd.prog.cellsOf 9 = 1 := by kernel_rfl
    rw [c1] at hel
    have each : ∀ i, i < len → ∃ z : List UInt8, w.cell? (a.add i) = some (.string ⟨z.toArray⟩) ∧ (elems.map (·.1))[i]? = some (.lit (.string z)) := by
      intro i hi
      have h1 := hel i hi
      have hie : i < elems.length := by omega
      rw [List.getElem?_eq_getElem hie] at h1
      obtain ⟨cs', h2, h3⟩ := Option.bind_eq_some_iff.1 h1
      obtain ⟨_, hl2, hc⟩ := World.cells?_some h2
      obtain ⟨z, e1, e2, _⟩ := DataW.trod_string Tryd.underlying9 h3
      subst e1
      have := hc 0 (by omega)
      rw [add_add] at this
      simp at this
      refine ⟨z.data.toList, ?_, ?_⟩
      · rw [this]
      · rw [List.getElem?_map, List.getElem?_eq_getElem hie, e2]; rfl
    obtain ⟨ks, hk, hp⟩ := pick_list len each
    refine ⟨some a, cap, ks, by rw [hk], ?_, ?_⟩
    · intro j z hz
      obtain ⟨h1, _⟩ := hp j z hz
      have hj := (List.getElem?_eq_some_iff.1 hz).1
      obtain ⟨h0, _⟩ := hp 0 (ks[0]'(by omega)) (List.getElem?_eq_getElem (by omega))
      obtain ⟨b, off, rfl⟩ := plain_of_cell h0
      rw [add_plain] at h1
      exact ⟨b, off, rfl, lt_of_cell h1, trivial, h1⟩
    · simp only [Rows.uptoBulk]
      have hz := sumBy_zip (fun k : List UInt8 => k.length + 1) (fun e : DataW H × List MemPlace => Rows.uptoBulk e.1) ks elems (by omega) (fun j z y hz hy => by
        obtain ⟨_, h2⟩ := hp j z hz
        rw [List.getElem?_map, hy] at h2
        simp at h2
        simp [h2, Rows.uptoBulk])
      rw [bulk_map]
      omega
set_option maxRecDepth 100000 in
theorem open_trod_mass {w : World} : ∀ (fuel m : Nat), fuel ≤ m → ∀ (cs : List Value) (x : DataW H × List MemPlace), DataW.trod enc Tryd.prog w 0 (fun _ => true) true fuel 26 cs = some x →
    ∃ d : VT m, IsV anyB w m (.agg ⟨cs⟩) d ∧ massV m d ≤ Rows.uptoBulk x.1 ∧ NumV m d := by
  have hC : Tryd.prog.cellsOf 26 = 5 := by kernel_rfl
  have c1 : Tryd.prog.cellsOf 3 = 1 := by kernel_rfl
  have c2 : Tryd.prog.cellsOf 9 = 1 := by kernel_rfl
  have c3 : Tryd.prog.cellsOf 23 = 1 := by kernel_rfl
  have c4 : Tryd.prog.cellsOf 24 = 1 := by kernel_rfl
  intro fuel
  induction fuel using Nat.strongRecOn with
  | _ fuel ih =>
    intro m hm cs x h
    obtain ⟨xs, n, hfu, hx, hcl, hlen, hg⟩ := DataW.trod_struct Tryd.underlying26 h
    obtain ⟨m, rfl⟩ : ∃ m', m = m' + 1 := ⟨m - 1, by omega⟩
    rw [hC] at hcl
    match cs, hcl, xs, hlen with
    | [v0, v1, v2, v3, v4], _, [y0, y1, y2, y3, y4], _ =>
      have g0 := hg 0 _ rfl
      have g1 := hg 1 _ rfl
      have g2 := hg 2 _ rfl
      have g3 := hg 3 _ rfl
      have g4 := hg 4 _ rfl
      simp [c1, c2, c3, c4] at g0 g1 g2 g3 g4
      obtain ⟨k, e0, d0, _⟩ := DataW.trod_int Tryd.underlying3 g0
      obtain ⟨i, e1, d1, wi⟩ := DataW.trod_int Tryd.underlying3 g1
      have bi := bounds_i64 wi
      obtain ⟨s, e2, d2, _⟩ := DataW.trod_string Tryd.underlying9 g2
      simp at e0 e1 e2
      obtain ⟨a2, q2, ks, e4, hS, hS1⟩ := open_keys_mass g4
      simp at e4
      subst e0; subst e1; subst e2; subst e4
      have hb : Rows.uptoBulk x.1 = Rows.uptoBulk y0.1 + (Rows.uptoBulk y1.1 + (Rows.uptoBulk y2.1 + (Rows.uptoBulk y3.1 + (Rows.uptoBulk y4.1 + 0)))) + 1 := by rw [hx]; rfl
      have hs : s.data.toList.length + 1 ≤ Rows.uptoBulk y2.1 := by rw [d2]; simp [Rows.uptoBulk]
      have hsb : (⟨s.data.toList.toArray⟩ : ByteArray) = s := by cases s; simp
      rcases DataW.trod_slice Tryd.underlying23 g3 with ⟨e3, _⟩ | ⟨a, len, cap, elems, rest, n2, hn2, e3, hy3, _, hl, _, hln, hel, _, _⟩
      · simp at e3
        subst e3
        refine ⟨(⟨k, i, s.data.toList, [], ks⟩ : VN (VT m)), ⟨none, 0, a2, q2, by simp only [hsb]; rfl, hS, fun j y hy => by simp at hy⟩, ?_, bi, fun y hy => by cases hy⟩
        rw [massV_succ]
        simp only [sumBy]
        omega
      · simp at e3
        subst e3
        rw [hC] at hel
        have each : ∀ r, r < len → ∃ z : VT m, (∃ k i s a1 n1 c1 a3 n3 c3, (∀ b off, a = ⟨b, off, none⟩ → Five w b (off + r * 5) k i s a1 n1 c1 a3 n3 c3) ∧ w.cell? (a.add (r * 5)) = some (.int .i64 k) ∧ IsV anyB w m (valV k i s a1 n1 c1 a3 n3 c3) z) ∧ (∀ y, elems[r]? = some y → massV m z ≤ Rows.uptoBulk y.1 ∧ NumV m z) := by
          intro r hr
          have h1 := hel r hr
          have hie : r < elems.length := by omega
          rw [List.getElem?_eq_getElem hie] at h1
          obtain ⟨cs', h2, h3⟩ := Option.bind_eq_some_iff.1 h1
          obtain ⟨_, hl2, hc⟩ := World.cells?_some h2
          obtain ⟨z, hz, hz2, hz9⟩ := ih n2 (by omega) m (by omega) cs' _ h3
          obtain ⟨m', rfl⟩ : ∃ m', m = m' + 1 := by
            cases m with
            | zero => exact hz.elim
            | succ m' => exact ⟨m', rfl⟩
          obtain ⟨aa, cc, bb, ee, hv, _, _⟩ := hz.parts
          injection hv with hv
          injection hv with hv
          subst hv
          have k0 := hc 0 (by omega); have k1 := hc 1 (by omega); have k2 := hc 2 (by omega); have k3 := hc 3 (by omega); have k4 := hc 4 (by omega)
          rw [add_add] at k0 k1 k2 k3 k4
          simp at k0 k1 k2 k3 k4
          refine ⟨z, ⟨_, _, _, _, _, _, _, _, _, ?_, k0, hz⟩, fun y hy => ?_⟩
          rotate_left
          · rw [List.getElem?_eq_getElem hie] at hy
            injection hy with hy
            rw [← hy]; exact ⟨hz2, hz9⟩
          intro b off he
          subst he
          rw [add_plain] at k0 k1 k2 k3 k4
          exact ⟨k0, by simpa [Nat.add_assoc] using k1, by simpa [Nat.add_assoc] using k2, by simpa [Nat.add_assoc] using k3, by simpa [Nat.add_assoc] using k4⟩
        obtain ⟨l, hll, hp⟩ := pick_list len each
        refine ⟨(⟨k, i, s.data.toList, l, ks⟩ : VN (VT m)), ⟨some a, cap, a2, q2, by simp only [hsb, hll], hS, ?_⟩, ?_, bi, fun z hz => ?_⟩
        rotate_right
        · obtain ⟨j, hj, e⟩ := List.getElem_of_mem hz
          have hie : j < elems.length := by have : j < l.length := hj; omega
          exact ((hp j z (by rw [← e]; exact List.getElem?_eq_getElem hj)).2 _ (List.getElem?_eq_getElem hie)).2
        · intro r z hz
          obtain ⟨⟨k, i, s, a1, n1, c1, a3, n3, c3, h5, hc0, hV⟩, _⟩ := hp r z hz
          have hj : r < l.length := (List.getElem?_eq_some_iff.1 hz).1
          obtain ⟨⟨_, _, _, _, _, _, _, _, _, _, h0, _⟩, _⟩ := hp 0 (l[0]'(by omega)) (List.getElem?_eq_getElem (by omega))
          rw [Nat.zero_mul] at h0
          obtain ⟨b, off, rfl⟩ := plain_of_cell h0
          rw [add_plain] at hc0
          exact ⟨b, off, rfl, lt_of_cell hc0, trivial, k, i, s, a1, n1, c1, a3, n3, c3, h5 b off rfl, hV⟩
        · have hz := sumBy_zip (massV m) (fun e : DataW H × List MemPlace => Rows.uptoBulk e.1) l elems (by omega) (fun j z y hz hy => ((hp j z hz).2 y hy).1)
          have h3 : sumBy (fun e : DataW H × List MemPlace => Rows.uptoBulk e.1) elems + 1 ≤ Rows.uptoBulk y3.1 := by
            rw [hy3]
            simp only [Rows.uptoBulk]
            rw [bulk_map]
            omega
          rw [massV_succ]
          simp only
          omega
set_option maxRecDepth 100000 in
/-- A value that came in. -/
theorem open_value_mass {w : World} {r : Reach} {b0 : Nat} {v : Value} {d : DataW H} {p : List MemPlace} (hv : Value.okWide Tryd.prog w r b0 26 v) (h : DataW.Trod enc Tryd.prog w 0 (fun _ => true) true 26 v d p) :
    ∃ (n : Nat) (t : VT n), IsV anyB w n v t ∧ massV n t ≤ Rows.uptoBulk d ∧ NumV n t := by
  obtain ⟨cs, rfl, hsz⟩ := okWide_struct Tryd.underlying26 hv
  obtain ⟨l⟩ := cs
  obtain ⟨fuel, hf⟩ := h
  obtain ⟨t, h1, h2, h3⟩ := open_trod_mass fuel fuel (Nat.le_refl _) l _ hf
  exact ⟨fuel, t, h1, h2, h3⟩
set_option maxRecDepth 100000 in
/-- Values that came in, as a list. -/
theorem open_values_mass {w : World} {fuel m : Nat} (hm : fuel ≤ m) (cs : List Value) (x : DataW H × List MemPlace) (h : DataW.trod enc Tryd.prog w 0 (fun _ => true) true fuel 23 cs = some x) :
    ∃ (a : Option Addr) (c : Nat) (l : List (VT m)), cs = [.slice a l.length c] ∧ ValsAt anyB w (IsV anyB w m) a l ∧ sumBy (massV m) l + 1 ≤ Rows.uptoBulk x.1 ∧ ∀ y ∈ l, NumV m y := by
  have hC : Tryd.prog.cellsOf 26 = 5 := by kernel_rfl
  rcases DataW.trod_slice Tryd.underlying23 h with ⟨rfl, rfl⟩ | ⟨a, len, cap, elems, rest, n2, hn2, e3, hy3, _, hl, _, hln, hel, _, _⟩
  · exact ⟨none, 0, [], rfl, fun j y hy => by simp at hy, by simp [sumBy, Rows.uptoBulk], fun y hy => by cases hy⟩
  · subst e3
    rw [hC] at hel
    have each : ∀ r, r < len → ∃ z : VT m, (∃ k i s a1 n1 c1 a3 n3 c3, (∀ b off, a = ⟨b, off, none⟩ → Five w b (off + r * 5) k i s a1 n1 c1 a3 n3 c3) ∧ w.cell? (a.add (r * 5)) = some (.int .i64 k) ∧ IsV anyB w m (valV k i s a1 n1 c1 a3 n3 c3) z) ∧ (∀ y, elems[r]? = some y → massV m z ≤ Rows.uptoBulk y.1 ∧ NumV m z) := by
      intro r hr
      have h1 := hel r hr
      have hie : r < elems.length := by omega
      rw [List.getElem?_eq_getElem hie] at h1
      obtain ⟨cs', h2, h3⟩ := Option.bind_eq_some_iff.1 h1
      obtain ⟨_, hl2, hc⟩ := World.cells?_some h2
      obtain ⟨z, hz, hz2, hz9⟩ := open_trod_mass n2 m (by omega) cs' _ h3
      obtain ⟨m', rfl⟩ : ∃ m', m = m' + 1 := by
        cases m with
        | zero => exact hz.elim
        | succ m' => exact ⟨m', rfl⟩
      obtain ⟨aa, cc, bb, ee, hv, _, _⟩ := hz.parts
      injection hv with hv
      injection hv with hv
      subst hv
      have k0 := hc 0 (by omega); have k1 := hc 1 (by omega); have k2 := hc 2 (by omega); have k3 := hc 3 (by omega); have k4 := hc 4 (by omega)
      rw [add_add] at k0 k1 k2 k3 k4
      simp at k0 k1 k2 k3 k4
      refine ⟨z, ⟨_, _, _, _, _, _, _, _, _, ?_, k0, hz⟩, fun y hy => ?_⟩
      rotate_left
      · rw [List.getElem?_eq_getElem hie] at hy
        injection hy with hy
        rw [← hy]; exact ⟨hz2, hz9⟩
      intro b off he
      subst he
      rw [add_plain] at k0 k1 k2 k3 k4
      exact ⟨k0, by simpa [Nat.add_assoc] using k1, by simpa [Nat.add_assoc] using k2, by simpa [Nat.add_assoc] using k3, by simpa [Nat.add_assoc] using k4⟩
    obtain ⟨l, hll, hp⟩ := pick_list len each
    refine ⟨some a, cap, l, by rw [hll], ?_, ?_, fun z hz => ?_⟩
    rotate_right
    · obtain ⟨j, hj, e⟩ := List.getElem_of_mem hz
      have hie : j < elems.length := by have : j < l.length := hj; omega
      exact ((hp j z (by rw [← e]; exact List.getElem?_eq_getElem hj)).2 _ (List.getElem?_eq_getElem hie)).2
    · intro r z hz
      obtain ⟨⟨k, i, s, a1, n1, c1, a3, n3, c3, h5, hc0, hV⟩, _⟩ := hp r z hz
      have hj : r < l.length := (List.getElem?_eq_some_iff.1 hz).1
      obtain ⟨⟨_, _, _, _, _, _, _, _, _, _, h0, _⟩, _⟩ := hp 0 (l[0]'(by omega)) (List.getElem?_eq_getElem (by omega))
      rw [Nat.zero_mul] at h0
      obtain ⟨b, off, rfl⟩ := plain_of_cell h0
      rw [add_plain] at hc0
      exact ⟨b, off, rfl, lt_of_cell hc0, trivial, k, i, s, a1, n1, c1, a3, n3, c3, h5 b off rfl, hV⟩
    · have hz := sumBy_zip (massV m) (fun e : DataW H × List MemPlace => Rows.uptoBulk e.1) l elems (by omega) (fun j z y hz hy => ((hp j z hz).2 y hy).1)
      rw [hy3]
      simp only [Rows.uptoBulk]
      rw [bulk_map]
      omega
end
end Go.Proofs.YtdnmgpidfjkiaaaDoor
