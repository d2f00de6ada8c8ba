/-
  PLAIN LAWS of many texts, in one.
-/
import Derived.Test.YtnepogddjinpoaaGreatDoorM1
import Derived.Test.YtnepogddjinpoaaGreatDoorRows
import Derived.WalkKit
import Derived.ProofKit
import Derived.OpenShut
import Derived.ShutString
import Derived.Lib.SmallJoins
import Derived.Deep.Slices
import Derived.Carry
namespace Go.Proofs.YtnepogddjinpoaaGreatDoor
open Go.ChangeShapes Go.WideShapes Go.ChangeAt Go.RowKit Go.Joins Go.Deep
set_option linter.unusedVariables false
set_option linter.unusedSimpArgs false
set_option linter.unnecessarySimpa false

theorem pick_list {α : Type} {p : Nat → α → Prop} : ∀ n, (∀ i, i < n → ∃ x, p i x) → ∃ l : List α, l.length = n ∧ ∀ i x, l[i]? = some x → p i x := by
  intro n
  induction n with
  | zero => intro _; exact ⟨[], rfl, fun i x h => by simp at h⟩
  | succ n ih =>
    intro h
    obtain ⟨l, hl, hp⟩ := ih fun i hi => h i (by omega)
    obtain ⟨x, hx⟩ := h n (by omega)
    refine ⟨l ++ [x], by simp [hl], fun i y hy => ?_⟩
    rcases Nat.lt_or_ge i n with h1 | h1
    · rw [List.getElem?_append_left (by omega)] at hy
      exact hp i y hy
    · have h2 := (List.getElem?_eq_some_iff.1 hy).1
      simp at h2
      obtain rfl : i = n := by omega
      rw [List.getElem?_append_right (by omega), hl] at hy
      simp at hy
      subst hy; exact hx
theorem lt_of_cell {w : World} {a : Addr} {v : Value} (h : w.cell? a = some v) : a.block < w.heap.size := by
  rcases Nat.lt_or_ge a.block w.heap.size with h1 | h1
  · exact h1
  · have : w.heap[a.block]? = none := Array.getElem?_eq_none h1
    unfold World.cell? at h
    rw [this] at h
    simp at h
theorem plain_of_cell {w : World} {a : Addr} {v : Value} (h : w.cell? (a.add 0) = some v) : ∃ b off, a = ⟨b, off, none⟩ := by
  obtain ⟨b, off, sp⟩ := a
  have := World.cell?_spot h
  refine ⟨b, off, ?_⟩
  simp [Addr.add] at this
  rw [this]
theorem bulk_mem {H : Type} : ∀ (l : List (DataW H)) (d : DataW H), d ∈ l → Rows.uptoBulk d ≤ Rows.uptoBulkAll l := by
  intro l
  induction l with
  | nil => intro d h; cases h
  | cons x l ih =>
    intro d h
    simp only [Rows.uptoBulkAll]
    rcases List.mem_cons.1 h with rfl | h
    · omega
    · have := ih d h; omega
theorem bulk_pos {H : Type} (d : DataW H) : 1 ≤ Rows.uptoBulk d := by
  cases d with
  | lit l => cases l <;> simp [Rows.uptoBulk]
  | _ => simp [Rows.uptoBulk]
theorem bulk_len {H : Type} (l : List (DataW H)) : l.length ≤ Rows.uptoBulkAll l := by
  induction l with
  | nil => simp
  | cons d l ih => have := bulk_pos d; simp only [List.length_cons, Rows.uptoBulkAll]; omega
theorem weights_all {H : Type} {P : Program} {t : TypeId} : ∀ (l : List (DataW H)) (d : DataW H), d ∈ l → ∀ z ∈ d.weights P t, z ∈ DataW.weightsAll P t l := by
  intro l
  induction l with
  | nil => intro d h; cases h
  | cons x l ih =>
    intro d h z hz
    simp only [DataW.weightsAll, List.mem_append]
    rcases List.mem_cons.1 h with rfl | h
    · exact .inl hz
    · exact .inr (ih d h z hz)
section
variable {H : Type} {enc : TypeId × Value → H}
theorem open_keys {w : World} {fuel : Nat} {cs : List Value} {x : DataW H × List MemPlace} (h : DataW.trod enc Tryz.prog w 0 (fun _ => true) true fuel 24 cs = some x) :
    ∃ (a : Option Addr) (c : Nat) (ks : List (List UInt8)), cs = [.slice a ks.length c] ∧ StrsAt anyB w a ks ∧ ks.length ≤ Rows.uptoBulk x.1 ∧ (∀ k ∈ ks, k.length ≤ Rows.uptoBulk x.1) ∧ ∀ R, (∀ z ∈ x.1.weights Tryz.prog 24, z ≤ R) → ks.length * 16 ≤ R ∧ ∀ k ∈ ks, k.length ≤ R := by
  rcases DataW.trod_slice Tryz.underlying24 h with ⟨rfl, rfl⟩ | ⟨a, len, cap, elems, rest, n, rfl, rfl, rfl, _, hl, _, hlen, hel, _, _⟩
  · exact ⟨none, 0, [], rfl, fun j x hx => by simp at hx, by simp, by simp, fun R _ => by simp⟩
  · have c1 : Tryz.prog.cellsOf 9 = 1 := by kernel_rfl
    rw [c1] at hel
    have each : ∀ i, i < len → ∃ z : List UInt8, w.cell? (a.add i) = some (.string ⟨z.toArray⟩) ∧ (elems.map (·.1))[i]? = some (.lit (.string z)) := by
      intro i hi
      have h1 := hel i hi
      have hie : i < elems.length := by omega
      rw [List.getElem?_eq_getElem hie] at h1
      obtain ⟨cs', h2, h3⟩ := Option.bind_eq_some_iff.1 h1
      obtain ⟨_, hl2, hc⟩ := World.cells?_some h2
      obtain ⟨z, e1, e2, _⟩ := DataW.trod_string Tryz.underlying9 h3
      subst e1
      have := hc 0 (by omega)
      rw [add_add] at this
      simp at this
      refine ⟨z.data.toList, ?_, ?_⟩
      · rw [this]
      · rw [List.getElem?_map, List.getElem?_eq_getElem hie, e2]; rfl
    obtain ⟨ks, hk, hp⟩ := pick_list len each
    have hby : Tryz.prog.bytesOf 9 = 16 := by kernel_rfl
    refine ⟨some a, cap, ks, by rw [hk], ?_, ?_, ?_, ?_⟩
    · intro j z hz
      obtain ⟨h1, _⟩ := hp j z hz
      have hj := (List.getElem?_eq_some_iff.1 hz).1
      obtain ⟨h0, _⟩ := hp 0 (ks[0]'(by omega)) (List.getElem?_eq_getElem (by omega))
      obtain ⟨b, off, rfl⟩ := plain_of_cell h0
      rw [add_plain] at h1
      exact ⟨b, off, rfl, lt_of_cell h1, trivial, h1⟩
    · simp only [Rows.uptoBulk]
      have := bulk_len (elems.map (·.1))
      simp at this
      omega
    · intro k hk2
      obtain ⟨j, hj, e⟩ := List.getElem_of_mem hk2
      obtain ⟨_, h2⟩ := hp j k (by rw [List.getElem?_eq_getElem hj, e])
      have h3 := bulk_mem _ _ (List.mem_of_getElem? h2)
      simp only [Rows.uptoBulk] at h3 ⊢
      omega
    · intro R hR
      have hR2 : ∀ z, z = ((elems.map (·.1)).length + (rest.map (·.1)).length) * Tryz.prog.bytesOf 9 ∨ z ∈ DataW.weightsAll Tryz.prog 9 (elems.map (·.1)) ∨ z ∈ DataW.weightsAll Tryz.prog 9 (rest.map (·.1)) → z ≤ R := by
        intro z hz
        refine hR z ?_
        simp only [DataW.weights, Tryz.underlying24, List.mem_cons, List.mem_append]
        exact hz
      refine ⟨?_, ?_⟩
      · have := hR2 _ (.inl rfl)
        rw [hby] at this
        simp at this
        omega
      · intro k hk2
        obtain ⟨j, hj, e⟩ := List.getElem_of_mem hk2
        obtain ⟨_, h2⟩ := hp j k (by rw [List.getElem?_eq_getElem hj, e])
        exact hR2 _ (.inr (.inl (weights_all _ _ (List.mem_of_getElem? h2) _ (by simp [DataW.weights]))))
set_option maxRecDepth 100000 in
theorem open_trod {w : World} : ∀ (fuel m : Nat), fuel ≤ m → ∀ (cs : List Value) (x : DataW H × List MemPlace), DataW.trod enc Tryz.prog w 0 (fun _ => true) true fuel 26 cs = some x →
    ∃ d : VT m, IsV anyB w m (.agg ⟨cs⟩) d ∧ (Rows.uptoBulk x.1 ≤ 1048576 → SmallV m d) ∧ ((∀ z ∈ x.1.weights Tryz.prog 26, z ≤ 140737488351232) → SmallV m d) := by
  have hC : Tryz.prog.cellsOf 26 = 5 := by kernel_rfl
  have c1 : Tryz.prog.cellsOf 3 = 1 := by kernel_rfl
  have c2 : Tryz.prog.cellsOf 9 = 1 := by kernel_rfl
  have c3 : Tryz.prog.cellsOf 23 = 1 := by kernel_rfl
  have c4 : Tryz.prog.cellsOf 24 = 1 := by kernel_rfl
  intro fuel
  induction fuel using Nat.strongRecOn with
  | _ fuel ih =>
    intro m hm cs x h
    obtain ⟨xs, n, hfu, hx, hcl, hlen, hg⟩ := DataW.trod_struct Tryz.underlying26 h
    obtain ⟨m, rfl⟩ : ∃ m', m = m' + 1 := ⟨m - 1, by omega⟩
    rw [hC] at hcl
    match cs, hcl, xs, hlen with
    | [v0, v1, v2, v3, v4], _, [y0, y1, y2, y3, y4], _ =>
      have g0 := hg 0 _ rfl
      have g1 := hg 1 _ rfl
      have g2 := hg 2 _ rfl
      have g3 := hg 3 _ rfl
      have g4 := hg 4 _ rfl
      simp [c1, c2, c3, c4] at g0 g1 g2 g3 g4
      obtain ⟨k, e0, d0, _⟩ := DataW.trod_int Tryz.underlying3 g0
      obtain ⟨i, e1, d1, _⟩ := DataW.trod_int Tryz.underlying3 g1
      obtain ⟨s, e2, d2, _⟩ := DataW.trod_string Tryz.underlying9 g2
      simp at e0 e1 e2
      obtain ⟨a2, q2, ks, e4, hS, hS1, hS2, hS3⟩ := open_keys g4
      simp at e4
      subst e0; subst e1; subst e2; subst e4
      have hb : Rows.uptoBulk x.1 = Rows.uptoBulk y0.1 + (Rows.uptoBulk y1.1 + (Rows.uptoBulk y2.1 + (Rows.uptoBulk y3.1 + (Rows.uptoBulk y4.1 + 0)))) + 1 := by rw [hx]; rfl
      have hw : ∀ z, (z ∈ y2.1.weights Tryz.prog 9 ∨ z ∈ y3.1.weights Tryz.prog 23 ∨ z ∈ y4.1.weights Tryz.prog 24) → z ∈ x.1.weights Tryz.prog 26 := by
        intro z hz
        have hxe : x.1 = .agg [y0.1, y1.1, y2.1, y3.1, y4.1] := by rw [hx]; rfl
        rw [hxe]
        simp only [DataW.weights, Tryz.underlying26, List.map_cons, List.map_nil, DataW.weightsEach, List.mem_append, List.append_nil]
        rcases hz with h | h | h
        · exact .inr (.inr (.inl h))
        · exact .inr (.inr (.inr (.inl h)))
        · exact .inr (.inr (.inr (.inr h)))
      have hs : s.data.toList.length ≤ Rows.uptoBulk y2.1 := by rw [d2]; simp [Rows.uptoBulk]
      have hsw : (∀ z ∈ x.1.weights Tryz.prog 26, z ≤ 140737488351232) → s.data.toList.length ≤ 140737488351232 := fun hR => hR _ (hw _ (.inl (by rw [d2]; simp [DataW.weights])))
      have hkw : (∀ z ∈ x.1.weights Tryz.prog 26, z ≤ 140737488351232) → ks.length * 16 ≤ 140737488351232 ∧ ∀ k ∈ ks, k.length ≤ 140737488351232 := fun hR => hS3 _ fun z hz => hR z (hw z (.inr (.inr hz)))
      have hsb : (⟨s.data.toList.toArray⟩ : ByteArray) = s := by cases s; simp
      rcases DataW.trod_slice Tryz.underlying23 g3 with ⟨e3, _⟩ | ⟨a, len, cap, elems, rest, n2, hn2, e3, hy3, _, hl, _, hln, hel, _, _⟩
      · simp at e3
        subst e3
        refine ⟨(⟨k, i, s.data.toList, [], ks⟩ : VN (VT m)), ⟨none, 0, a2, q2, by simp only [hsb]; rfl, hS, fun j y hy => by simp at hy⟩, fun hbd => ?_, fun hR => ?_⟩
        · refine ⟨?_, ?_, ?_, ?_, ?_⟩
          · show s.data.toList.length ≤ _; omega
          · show ([] : List (VT m)).length * 80 ≤ _; simp
          · show ks.length * 16 ≤ _; omega
          · intro z hz; have := hS2 z hz; omega
          · intro z hz; cases hz
        · refine ⟨hsw hR, ?_, (hkw hR).1, (hkw hR).2, ?_⟩
          · show ([] : List (VT m)).length * 80 ≤ _; simp
          · intro z hz; cases hz
      · simp at e3
        subst e3
        rw [hC] at hel
        have each : ∀ r, r < len → ∃ z : VT m, (∃ k i s a1 n1 c1 a3 n3 c3, (∀ b off, a = ⟨b, off, none⟩ → Five w b (off + r * 5) k i s a1 n1 c1 a3 n3 c3) ∧ w.cell? (a.add (r * 5)) = some (.int .i64 k) ∧ IsV anyB w m (valV k i s a1 n1 c1 a3 n3 c3) z) ∧ (Rows.uptoBulk y3.1 ≤ 1048576 → SmallV m z) ∧ ((∀ z ∈ y3.1.weights Tryz.prog 23, z ≤ 140737488351232) → SmallV m z) := by
          intro r hr
          have h1 := hel r hr
          have hie : r < elems.length := by omega
          rw [List.getElem?_eq_getElem hie] at h1
          obtain ⟨cs', h2, h3⟩ := Option.bind_eq_some_iff.1 h1
          obtain ⟨_, hl2, hc⟩ := World.cells?_some h2
          obtain ⟨z, hz, hz2, hz3⟩ := ih n2 (by omega) m (by omega) cs' _ h3
          have hbk : Rows.uptoBulk (elems[r]'hie).1 ≤ Rows.uptoBulk y3.1 := by
            rw [hy3]
            have := bulk_mem (elems.map (·.1)) (elems[r]'hie).1 (List.mem_map.2 ⟨_, List.getElem_mem hie, rfl⟩)
            simp only [Rows.uptoBulk]; omega
          obtain ⟨m', rfl⟩ : ∃ m', m = m' + 1 := by
            cases m with
            | zero => exact hz.elim
            | succ m' => exact ⟨m', rfl⟩
          obtain ⟨aa, cc, bb, ee, hv, _, _⟩ := hz.parts
          injection hv with hv
          injection hv with hv
          subst hv
          have k0 := hc 0 (by omega); have k1 := hc 1 (by omega); have k2 := hc 2 (by omega); have k3 := hc 3 (by omega); have k4 := hc 4 (by omega)
          rw [add_add] at k0 k1 k2 k3 k4
          simp at k0 k1 k2 k3 k4
          refine ⟨z, ⟨_, _, _, _, _, _, _, _, _, ?_, k0, hz⟩, fun hh => hz2 (by omega), fun hh => hz3 fun q hq => hh q ?_⟩
          rotate_left
          · rw [hy3]
            simp only [DataW.weights, Tryz.underlying23, List.mem_cons, List.mem_append]
            exact .inr (.inl (weights_all _ _ (List.mem_map.2 ⟨_, List.getElem_mem hie, rfl⟩) q hq))
          intro b off he
          subst he
          rw [add_plain] at k0 k1 k2 k3 k4
          exact ⟨k0, by simpa [Nat.add_assoc] using k1, by simpa [Nat.add_assoc] using k2, by simpa [Nat.add_assoc] using k3, by simpa [Nat.add_assoc] using k4⟩
        obtain ⟨l, hll, hp⟩ := pick_list len each
        refine ⟨(⟨k, i, s.data.toList, l, ks⟩ : VN (VT m)), ⟨some a, cap, a2, q2, by simp only [hsb, hll], hS, ?_⟩, fun hbd => ?_, fun hR => ?_⟩
        · intro r z hz
          obtain ⟨⟨k, i, s, a1, n1, c1, a3, n3, c3, h5, hc0, hV⟩, _⟩ := hp r z hz
          have hj : r < l.length := (List.getElem?_eq_some_iff.1 hz).1
          obtain ⟨⟨_, _, _, _, _, _, _, _, _, _, h0, _⟩, _⟩ := hp 0 (l[0]'(by omega)) (List.getElem?_eq_getElem (by omega))
          rw [Nat.zero_mul] at h0
          obtain ⟨b, off, rfl⟩ := plain_of_cell h0
          rw [add_plain] at hc0
          exact ⟨b, off, rfl, lt_of_cell hc0, trivial, k, i, s, a1, n1, c1, a3, n3, c3, h5 b off rfl, hV⟩
        · have hl3 : l.length ≤ Rows.uptoBulk y3.1 := by
            rw [hy3]
            have := bulk_len (elems.map (·.1))
            simp only [Rows.uptoBulk]
            simp at this
            omega
          refine ⟨?_, ?_, ?_, ?_, ?_⟩
          · show s.data.toList.length ≤ _; omega
          · show l.length * 80 ≤ _; omega
          · show ks.length * 16 ≤ _; omega
          · intro z hz; have := hS2 z hz; omega
          · intro z hz
            obtain ⟨j, hj, e⟩ := List.getElem_of_mem hz
            exact (hp j z (by rw [List.getElem?_eq_getElem hj, e])).2.1 (by omega)
        · have h3w : ∀ z ∈ y3.1.weights Tryz.prog 23, z ≤ 140737488351232 := fun z hz => hR z (hw z (.inr (.inl hz)))
          have hby : Tryz.prog.bytesOf 26 = 80 := by kernel_rfl
          have h3l := h3w (((elems.map (·.1)).length + (rest.map (·.1)).length) * Tryz.prog.bytesOf 26) (by rw [hy3]; simp only [DataW.weights, Tryz.underlying23, List.mem_cons, true_or])
          rw [hby] at h3l
          simp at h3l
          refine ⟨hsw hR, ?_, (hkw hR).1, (hkw hR).2, ?_⟩
          · show l.length * 80 ≤ _; omega
          · intro z hz
            obtain ⟨j, hj, e⟩ := List.getElem_of_mem hz
            exact (hp j z (by rw [List.getElem?_eq_getElem hj, e])).2.2 h3w
set_option maxRecDepth 100000 in
/-- A value that came in. -/
theorem open_value {w : World} {r : Reach} {b0 : Nat} {v : Value} {d : DataW H} {p : List MemPlace} (hv : Value.okWide Tryz.prog w r b0 26 v) (h : DataW.Trod enc Tryz.prog w 0 (fun _ => true) true 26 v d p) :
    ∃ (n : Nat) (t : VT n), IsV anyB w n v t ∧ (Rows.uptoBulk d ≤ 1048576 → SmallV n t) ∧ ((∀ z ∈ d.weights Tryz.prog 26, z ≤ 140737488351232) → SmallV n t) := by
  obtain ⟨cs, rfl, hsz⟩ := okWide_struct Tryz.underlying26 hv
  obtain ⟨l⟩ := cs
  obtain ⟨fuel, hf⟩ := h
  obtain ⟨t, h1, h2, h3⟩ := open_trod fuel fuel (Nat.le_refl _) l _ hf
  exact ⟨fuel, t, h1, h2, h3⟩
end
set_option maxRecDepth 100000 in
theorem laidOutV : laidOutB Tryz.prog = true := by kernel_rfl
set_option maxRecDepth 100000 in
/-- A value behind the call. -/
theorem again_value {H : Type} {enc : TypeId × Value → H} {W W' : World} {v : Value} {d : DataW H} {ps : List MemPlace} (h : DataW.Trod enc Tryz.prog W 0 (fun _ => true) true 26 v d ps) (hb : Below W.heap.size W W') (hlt : ∀ x ∈ ps, x.block < W.heap.size) (sp : Nat → Bool) (hsp : ∀ x ∈ ps, sp x.block = true) :
    DataW.Trod enc Tryz.prog W' 0 sp true 26 v d ps :=
  WideElems.Trod_stays laidOutV (by kernel_rfl) (of_decide_eq_true (by kernel_rfl)) h (fun x hx => hb.same (hlt x hx)) hsp
end Go.Proofs.YtnepogddjinpoaaGreatDoor

namespace Go.Proofs.YtnepogddjinpoaaGreatDoor
open Go.ChangeShapes Go.WideShapes Go.ChangeAt Go.RowKit Go.Joins Go.Deep
set_option linter.unusedVariables false

theorem bulk_map {H : Type} : ∀ (l : List (DataW H × List MemPlace)), Rows.uptoBulkAll (l.map (·.1)) = sumBy (fun e => Rows.uptoBulk e.1) l := by
  intro l
  induction l with
  | nil => rfl
  | cons x l ih => simp only [List.map_cons, Rows.uptoBulkAll, sumBy, ih]
section
variable {H : Type} {enc : TypeId × Value → H}
theorem open_keys_mass {w : World} {fuel : Nat} {cs : List Value} {x : DataW H × List MemPlace} (h : DataW.trod enc Tryz.prog w 0 (fun _ => true) true fuel 24 cs = some x) :
    ∃ (a : Option Addr) (c : Nat) (ks : List (List UInt8)), cs = [.slice a ks.length c] ∧ StrsAt anyB w a ks ∧ sumBy (fun k => k.length + 1) ks + 1 ≤ Rows.uptoBulk x.1 := by
  rcases DataW.trod_slice Tryz.underlying24 h with ⟨rfl, rfl⟩ | ⟨a, len, cap, elems, rest, n, rfl, rfl, rfl, _, hl, _, hlen, hel, _, _⟩
  · exact ⟨none, 0, [], rfl, fun j x hx => by simp at hx, by simp [sumBy, Rows.uptoBulk]⟩
  · have c1 : Tryz.prog.cellsOf 9 = 1 := by kernel_rfl
    rw [c1] at hel
    have each : ∀ i, i < len → ∃ z : List UInt8, w.cell? (a.add i) = some (.string ⟨z.toArray⟩) ∧ (elems.map (·.1))[i]? = some (.lit (.string z)) := by
      intro i hi
      have h1 := hel i hi
      have hie : i < elems.length := by omega
      rw [List.getElem?_eq_getElem hie] at h1
      obtain ⟨cs', h2, h3⟩ := Option.bind_eq_some_iff.1 h1
      obtain ⟨_, hl2, hc⟩ := World.cells?_some h2
      obtain ⟨z, e1, e2, _⟩ := DataW.trod_string Tryz.underlying9 h3
      subst e1
      have := hc 0 (by omega)
      rw [add_add] at this
      simp at this
      refine ⟨z.data.toList, ?_, ?_⟩
      · rw [this]
      · rw [List.getElem?_map, List.getElem?_eq_getElem hie, e2]; rfl
    obtain ⟨ks, hk, hp⟩ := pick_list len each
    refine ⟨some a, cap, ks, by rw [hk], ?_, ?_⟩
    · intro j z hz
      obtain ⟨h1, _⟩ := hp j z hz
      have hj := (List.getElem?_eq_some_iff.1 hz).1
      obtain ⟨h0, _⟩ := hp 0 (ks[0]'(by omega)) (List.getElem?_eq_getElem (by omega))
      obtain ⟨b, off, rfl⟩ := plain_of_cell h0
      rw [add_plain] at h1
      exact ⟨b, off, rfl, lt_of_cell h1, trivial, h1⟩
    · simp only [Rows.uptoBulk]
      have hz := sumBy_zip (fun k : List UInt8 => k.length + 1) (fun e : DataW H × List MemPlace => Rows.uptoBulk e.1) ks elems (by omega) (fun j z y hz hy => by
        obtain ⟨_, h2⟩ := hp j z hz
        rw [List.getElem?_map, hy] at h2
        simp at h2
        simp [h2, Rows.uptoBulk])
      rw [bulk_map]
      omega
set_option maxRecDepth 100000 in
theorem open_trod_mass {w : World} : ∀ (fuel m : Nat), fuel ≤ m → ∀ (cs : List Value) (x : DataW H × List MemPlace), DataW.trod enc Tryz.prog w 0 (fun _ => true) true fuel 26 cs = some x →
    ∃ d : VT m, IsV anyB w m (.agg ⟨cs⟩) d ∧ massV m d ≤ Rows.uptoBulk x.1 ∧ NumV m d := by
  have hC : Tryz.prog.cellsOf 26 = 5 := by kernel_rfl
  have c1 : Tryz.prog.cellsOf 3 = 1 := by kernel_rfl
  have c2 : Tryz.prog.cellsOf 9 = 1 := by kernel_rfl
  have c3 : Tryz.prog.cellsOf 23 = 1 := by kernel_rfl
  have c4 : Tryz.prog.cellsOf 24 = 1 := by kernel_rfl
  intro fuel
  induction fuel using Nat.strongRecOn with
  | _ fuel ih =>
    intro m hm cs x h
    obtain ⟨xs, n, hfu, hx, hcl, hlen, hg⟩ := DataW.trod_struct Tryz.underlying26 h
    obtain ⟨m, rfl⟩ : ∃ m', m = m' + 1 := ⟨m - 1, by omega⟩
    rw [hC] at hcl
    match cs, hcl, xs, hlen with
    | [v0, v1, v2, v3, v4], _, [y0, y1, y2, y3, y4], _ =>
      have g0 := hg 0 _ rfl
      have g1 := hg 1 _ rfl
      have g2 := hg 2 _ rfl
      have g3 := hg 3 _ rfl
      have g4 := hg 4 _ rfl
      simp [c1, c2, c3, c4] at g0 g1 g2 g3 g4
      obtain ⟨k, e0, d0, _⟩ := DataW.trod_int Tryz.underlying3 g0
      obtain ⟨i, e1, d1, wi⟩ := DataW.trod_int Tryz.underlying3 g1
      have bi := bounds_i64 wi
      obtain ⟨s, e2, d2, _⟩ := DataW.trod_string Tryz.underlying9 g2
      simp at e0 e1 e2
      obtain ⟨a2, q2, ks, e4, hS, hS1⟩ := open_keys_mass g4
      simp at e4
      subst e0; subst e1; subst e2; subst e4
      have hb : Rows.uptoBulk x.1 = Rows.uptoBulk y0.1 + (Rows.uptoBulk y1.1 + (Rows.uptoBulk y2.1 + (Rows.uptoBulk y3.1 + (Rows.uptoBulk y4.1 + 0)))) + 1 := by rw [hx]; rfl
      have hs : s.data.toList.length + 1 ≤ Rows.uptoBulk y2.1 := by rw [d2]; simp [Rows.uptoBulk]
      have hsb : (⟨s.data.toList.toArray⟩ : ByteArray) = s := by cases s; simp
      rcases DataW.trod_slice Tryz.underlying23 g3 with ⟨e3, _⟩ | ⟨a, len, cap, elems, rest, n2, hn2, e3, hy3, _, hl, _, hln, hel, _, _⟩
      · simp at e3
        subst e3
        refine ⟨(⟨k, i, s.data.toList, [], ks⟩ : VN (VT m)), ⟨none, 0, a2, q2, by simp only [hsb]; rfl, hS, fun j y hy => by simp at hy⟩, ?_, bi, fun y hy => by cases hy⟩
        rw [massV_succ]
        simp only [sumBy]
        omega
      · simp at e3
        subst e3
        rw [hC] at hel
        have each : ∀ r, r < len → ∃ z : VT m, (∃ k i s a1 n1 c1 a3 n3 c3, (∀ b off, a = ⟨b, off, none⟩ → Five w b (off + r * 5) k i s a1 n1 c1 a3 n3 c3) ∧ w.cell? (a.add (r * 5)) = some (.int .i64 k) ∧ IsV anyB w m (valV k i s a1 n1 c1 a3 n3 c3) z) ∧ (∀ y, elems[r]? = some y → massV m z ≤ Rows.uptoBulk y.1 ∧ NumV m z) := by
          intro r hr
          have h1 := hel r hr
          have hie : r < elems.length := by omega
          rw [List.getElem?_eq_getElem hie] at h1
          obtain ⟨cs', h2, h3⟩ := Option.bind_eq_some_iff.1 h1
          obtain ⟨_, hl2, hc⟩ := World.cells?_some h2
          obtain ⟨z, hz, hz2, hz9⟩ := ih n2 (by omega) m (by omega) cs' _ h3
          obtain ⟨m', rfl⟩ : ∃ m', m = m' + 1 := by
            cases m with
            | zero => exact hz.elim
            | succ m' => exact ⟨m', rfl⟩
          obtain ⟨aa, cc, bb, ee, hv, _, _⟩ := hz.parts
          injection hv with hv
          injection hv with hv
          subst hv
          have k0 := hc 0 (by omega); have k1 := hc 1 (by omega); have k2 := hc 2 (by omega); have k3 := hc 3 (by omega); have k4 := hc 4 (by omega)
          rw [add_add] at k0 k1 k2 k3 k4
          simp at k0 k1 k2 k3 k4
          refine ⟨z, ⟨_, _, _, _, _, _, _, _, _, ?_, k0, hz⟩, fun y hy => ?_⟩
          rotate_left
          · rw [List.getElem?_eq_getElem hie] at hy
            injection hy with hy
            rw [← hy]; exact ⟨hz2, hz9⟩
          intro b off he
          subst he
          rw [add_plain] at k0 k1 k2 k3 k4
          exact ⟨k0, by simpa [Nat.add_assoc] using k1, by simpa [Nat.add_assoc] using k2, by simpa [Nat.add_assoc] using k3, by simpa [Nat.add_assoc] using k4⟩
        obtain ⟨l, hll, hp⟩ := pick_list len each
        refine ⟨(⟨k, i, s.data.toList, l, ks⟩ : VN (VT m)), ⟨some a, cap, a2, q2, by simp only [hsb, hll], hS, ?_⟩, ?_, bi, fun z hz => ?_⟩
        rotate_right
        · obtain ⟨j, hj, e⟩ := List.getElem_of_mem hz
          have hie : j < elems.length := by have : j < l.length := hj; omega
          exact ((hp j z (by rw [← e]; exact List.getElem?_eq_getElem hj)).2 _ (List.getElem?_eq_getElem hie)).2
        · intro r z hz
          obtain ⟨⟨k, i, s, a1, n1, c1, a3, n3, c3, h5, hc0, hV⟩, _⟩ := hp r z hz
          have hj : r < l.length := (List.getElem?_eq_some_iff.1 hz).1
          obtain ⟨⟨_, _, _, _, _, _, _, _, _, _, h0, _⟩, _⟩ := hp 0 (l[0]'(by omega)) (List.getElem?_eq_getElem (by omega))
          rw [Nat.zero_mul] at h0
          obtain ⟨b, off, rfl⟩ := plain_of_cell h0
          rw [add_plain] at hc0
          exact ⟨b, off, rfl, lt_of_cell hc0, trivial, k, i, s, a1, n1, c1, a3, n3, c3, h5 b off rfl, hV⟩
        · have hz := sumBy_zip (massV m) (fun e : DataW H × List MemPlace => Rows.uptoBulk e.1) l elems (by omega) (fun j z y hz hy => ((hp j z hz).2 y hy).1)
          have h3 : sumBy (fun e : DataW H × List MemPlace => Rows.uptoBulk e.1) elems + 1 ≤ Rows.uptoBulk y3.1 := by
            rw [hy3]
            simp only [Rows.uptoBulk]
            rw [bulk_map]
            omega
          rw [massV_succ]
          simp only
          omega
set_option maxRecDepth 100000 in
/-- A value that came in. -/
theorem open_value_mass {w : World} {r : Reach} {b0 : Nat} {v : Value} {d : DataW H} {p : List MemPlace} (hv : Value.okWide Tryz.prog w r b0 26 v) (h : DataW.Trod enc Tryz.prog w 0 (fun _ => true) true 26 v d p) :
    ∃ (n : Nat) (t : VT n), IsV anyB w n v t ∧ massV n t ≤ Rows.uptoBulk d ∧ NumV n t := by
  obtain ⟨cs, rfl, hsz⟩ := okWide_struct Tryz.underlying26 hv
  obtain ⟨l⟩ := cs
  obtain ⟨fuel, hf⟩ := h
  obtain ⟨t, h1, h2, h3⟩ := open_trod_mass fuel fuel (Nat.le_refl _) l _ hf
  exact ⟨fuel, t, h1, h2, h3⟩
set_option maxRecDepth 100000 in
/-- Values that came in, as a list. -/
theorem open_values_mass {w : World} {fuel m : Nat} (hm : fuel ≤ m) (cs : List Value) (x : DataW H × List MemPlace) (h : DataW.trod enc Tryz.prog w 0 (fun _ => true) true fuel 23 cs = some x) :
    ∃ (a : Option Addr) (c : Nat) (l : List (VT m)), cs = [.slice a l.length c] ∧ ValsAt anyB w (IsV anyB w m) a l ∧ sumBy (massV m) l + 1 ≤ Rows.uptoBulk x.1 ∧ ∀ y ∈ l, NumV m y := by
  have hC : Tryz.prog.cellsOf 26 = 5 := by kernel_rfl
  rcases DataW.trod_slice Tryz.underlying23 h with ⟨rfl, rfl⟩ | ⟨a, len, cap, elems, rest, n2, hn2, e3, hy3, _, hl, _, hln, hel, _, _⟩
  · exact ⟨none, 0, [], rfl, fun j y hy => by simp at hy, by simp [sumBy, Rows.uptoBulk], fun y hy => by cases hy⟩
  · subst e3
    rw [hC] at hel
    have each : ∀ r, r < len → ∃ z : VT m, (∃ k i s a1 n1 c1 a3 n3 c3, (∀ b off, a = ⟨b, off, none⟩ → Five w b (off + r * 5) k i s a1 n1 c1 a3 n3 c3) ∧ w.cell? (a.add (r * 5)) = some (.int .i64 k) ∧ IsV anyB w m (valV k i s a1 n1 c1 a3 n3 c3) z) ∧ (∀ y, elems[r]? = some y → massV m z ≤ Rows.uptoBulk y.1 ∧ NumV m z) := by
      intro r hr
      have h1 := hel r hr
      have hie : r < elems.length := by omega
      rw [List.getElem?_eq_getElem hie] at h1
      obtain ⟨cs', h2, h3⟩ := Option.bind_eq_some_iff.1 h1
      obtain ⟨_, hl2, hc⟩ := World.cells?_some h2
      obtain ⟨z, hz, hz2, hz9⟩ := open_trod_mass n2 m (by omega) cs' _ h3
      obtain ⟨m', rfl⟩ : ∃ m', m = m' + 1 := by
        cases m with
        | zero => exact hz.elim
        | succ m' => exact ⟨m', rfl⟩
      obtain ⟨aa, cc, bb, ee, hv, _, _⟩ := hz.parts
      injection hv with hv
      injection hv with hv
      subst hv
      have k0 := hc 0 (by omega); have k1 := hc 1 (by omega); have k2 := hc 2 (by omega); have k3 := hc 3 (by omega); have k4 := hc 4 (by omega)
      rw [add_add] at k0 k1 k2 k3 k4
      simp at k0 k1 k2 k3 k4
      refine ⟨z, ⟨_, _, _, _, _, _, _, _, _, ?_, k0, hz⟩, fun y hy => ?_⟩
      rotate_left
      · rw [List.getElem?_eq_getElem hie] at hy
        injection hy with hy
        rw [← hy]; exact ⟨hz2, hz9⟩
      intro b off he
      subst he
      rw [add_plain] at k0 k1 k2 k3 k4
      exact ⟨k0, by simpa [Nat.add_assoc] using k1, by simpa [Nat.add_assoc] using k2, by simpa [Nat.add_assoc] using k3, by simpa [Nat.add_assoc] using k4⟩
    obtain ⟨l, hll, hp⟩ := pick_list len each
    refine ⟨some a, cap, l, by rw [hll], ?_, ?_, fun z hz => ?_⟩
    rotate_right
    · obtain ⟨j, hj, e⟩ := List.getElem_of_mem hz
      have hie : j < elems.length := by have : j < l.length := hj; omega
      exact ((hp j z (by rw [← e]; exact List.getElem?_eq_getElem hj)).2 _ (List.getElem?_eq_getElem hie)).2
    · intro r z hz
      obtain ⟨⟨k, i, s, a1, n1, c1, a3, n3, c3, h5, hc0, hV⟩, _⟩ := hp r z hz
      have hj : r < l.length := (List.getElem?_eq_some_iff.1 hz).1
      obtain ⟨⟨_, _, _, _, _, _, _, _, _, _, h0, _⟩, _⟩ := hp 0 (l[0]'(by omega)) (List.getElem?_eq_getElem (by omega))
      rw [Nat.zero_mul] at h0
      obtain ⟨b, off, rfl⟩ := plain_of_cell h0
      rw [add_plain] at hc0
      exact ⟨b, off, rfl, lt_of_cell hc0, trivial, k, i, s, a1, n1, c1, a3, n3, c3, h5 b off rfl, hV⟩
    · have hz := sumBy_zip (massV m) (fun e : DataW H × List MemPlace => Rows.uptoBulk e.1) l elems (by omega) (fun j z y hz hy => ((hp j z hz).2 y hy).1)
      rw [hy3]
      simp only [Rows.uptoBulk]
      rw [bulk_map]
      omega
end
end Go.Proofs.YtnepogddjinpoaaGreatDoor

namespace Go.Proofs.YtnepogddjinpoaaGreatDoor
open Go.ChangeShapes Go.WideShapes Go.ChangeAt Go.RowKit Go.Joins Go.Deep
set_option linter.unusedVariables false
set_option linter.unusedSimpArgs false
section
variable {H : Type} {enc : TypeId × Value → H}
/-- A list of structs that came in: its elements as they open. -/
theorem open_list {w : World} {ST T : TypeId} {size : Nat} (hST : Tryz.prog.underlying ST = some (.slice T)) (hC : Tryz.prog.cellsOf T = size) (hp : 0 < size) {α : Type} (R : Rel α) (f : α → Nat) {fuel : Nat}
    (op : ∀ n2, n2 + 1 = fuel → ∀ (cs : List Value) (x : DataW H × List MemPlace), DataW.trod enc Tryz.prog w 0 (fun _ => true) true n2 T cs = some x → ∃ d : α, R anyB w cs d ∧ f d ≤ Rows.uptoBulk x.1)
    {cs : List Value} {x : DataW H × List MemPlace} (h : DataW.trod enc Tryz.prog w 0 (fun _ => true) true fuel ST cs = some x) :
    ∃ (a : Option Addr) (c : Nat) (l : List α), cs = [.slice a l.length c] ∧ AtR R size anyB w a l ∧ sumBy f l + 1 ≤ Rows.uptoBulk x.1 := by
  rcases DataW.trod_slice hST h with ⟨rfl, rfl⟩ | ⟨a, len, cap, elems, rest, n2, hn2, e3, hy3, _, hl, _, hln, hel, _, _⟩
  · exact ⟨none, 0, [], rfl, AtR.nil, by simp [sumBy, Rows.uptoBulk]⟩
  · subst e3
    rw [hC] at hel
    have each : ∀ r, r < len → ∃ z : α, (∃ vs : List Value, vs.length = size ∧ (∀ t u, vs[t]? = some u → w.cell? (a.add (r * size + t)) = some u) ∧ R anyB w vs z) ∧ ∀ y, elems[r]? = some y → f z ≤ Rows.uptoBulk y.1 := by
      intro r hr
      have h1 := hel r hr
      have hie : r < elems.length := by omega
      rw [List.getElem?_eq_getElem hie] at h1
      obtain ⟨cs', h2, h3⟩ := Option.bind_eq_some_iff.1 h1
      obtain ⟨_, hl2, hc⟩ := World.cells?_some h2
      obtain ⟨z, hz, hz2⟩ := op n2 hn2.symm cs' _ h3
      refine ⟨z, ⟨cs', hl2, fun t u ht => ?_, hz⟩, fun y hy => ?_⟩
      · have ht2 : t < size := by rw [← hl2]; exact (List.getElem?_eq_some_iff.1 ht).1
        have := hc t ht2
        rw [add_add] at this
        rw [this]; exact ht
      · rw [List.getElem?_eq_getElem hie] at hy
        injection hy with hy
        rw [← hy]; exact hz2
    obtain ⟨l, hll, hpp⟩ := pick_list len each
    refine ⟨some a, cap, l, by rw [hll], ?_, ?_⟩
    · intro r z hz
      obtain ⟨⟨vs, hvl, hvc, hR⟩, _⟩ := hpp r z hz
      have hj : r < l.length := (List.getElem?_eq_some_iff.1 hz).1
      obtain ⟨⟨vs0, hvl0, hvc0, _⟩, _⟩ := hpp 0 (l[0]'(by omega)) (List.getElem?_eq_getElem (by omega))
      have h0 := hvc0 0 (vs0[0]'(by omega)) (List.getElem?_eq_getElem (by omega))
      rw [Nat.zero_mul, Nat.zero_add] at h0
      obtain ⟨b, off, rfl⟩ := plain_of_cell h0
      have h9 := hvc 0 (vs[0]'(by omega)) (List.getElem?_eq_getElem (by omega))
      rw [add_plain] at h9
      refine ⟨b, off, vs, rfl, lt_of_cell h9, trivial, hvl, fun t u ht => ?_, hR⟩
      have := hvc t u ht
      rw [add_plain] at this
      rw [Nat.add_assoc]; exact this
    · have hz := sumBy_zip f (fun e : DataW H × List MemPlace => Rows.uptoBulk e.1) l elems (by omega) (fun j z y hz hy => (hpp j z hz).2 y hy)
      rw [hy3]
      simp only [Rows.uptoBulk]
      rw [bulk_map]
      omega
theorem str_back (s : ByteArray) : (⟨s.data.toList.toArray⟩ : ByteArray) = s := by cases s; simp
/-- A text that came in, as an element. -/
theorem open_strE {w : World} {fuel : Nat} (cs : List Value) (x : DataW H × List MemPlace) (h : DataW.trod enc Tryz.prog w 0 (fun _ => true) true fuel 9 cs = some x) : ∃ d : List UInt8, StrR anyB w cs d ∧ d.length + 1 ≤ Rows.uptoBulk x.1 := by
  obtain ⟨s, e1, e2, _⟩ := DataW.trod_string Tryz.underlying9 h
  refine ⟨s.data.toList, ?_, ?_⟩
  · subst e1
    show _ = _
    rw [str_back]
  · rw [e2]; simp [Rows.uptoBulk]
set_option maxRecDepth 100000 in
/-- An argument that came in. -/
theorem open_argE {w : World} {fuel : Nat} (cs : List Value) (x : DataW H × List MemPlace) (h : DataW.trod enc Tryz.prog w 0 (fun _ => true) true fuel 35 cs = some x) : ∃ d : ArgD, ArgR anyB w cs d ∧ massA d ≤ Rows.uptoBulk x.1 := by
  have hC : Tryz.prog.cellsOf 35 = 5 := by kernel_rfl
  have c1 : Tryz.prog.cellsOf 3 = 1 := by kernel_rfl
  have c2 : Tryz.prog.cellsOf 9 = 1 := by kernel_rfl
  have c4 : Tryz.prog.cellsOf 24 = 1 := by kernel_rfl
  obtain ⟨xs, n, hfu, hx, hcl, hlen, hg⟩ := DataW.trod_struct Tryz.underlying35 h
  rw [hC] at hcl
  match cs, hcl, xs, hlen with
  | [v0, v1, v2, v3, v4], _, [y0, y1, y2, y3, y4], _ =>
    have g0 := hg 0 _ rfl
    have g1 := hg 1 _ rfl
    have g2 := hg 2 _ rfl
    have g3 := hg 3 _ rfl
    have g4 := hg 4 _ rfl
    simp [c1, c2, c4] at g0 g1 g2 g3 g4
    obtain ⟨k, e0, d0, _⟩ := DataW.trod_int Tryz.underlying3 g0
    obtain ⟨nm, e1, d1, _⟩ := DataW.trod_string Tryz.underlying9 g1
    obtain ⟨a2, c2', path, e2, hS, hS1⟩ := open_list (size := 1) Tryz.underlying24 (by kernel_rfl) (by decide) StrR (fun p : List UInt8 => p.length + 1) (fun n2 _ cs x h => open_strE cs x h) g2
    obtain ⟨i, e3, d3, _⟩ := DataW.trod_int Tryz.underlying3 g3
    obtain ⟨s, e4, d4, _⟩ := DataW.trod_string Tryz.underlying9 g4
    simp at e0 e1 e2 e3 e4
    subst e0; subst e1; subst e2; subst e3; subst e4
    have hb : Rows.uptoBulk x.1 = Rows.uptoBulk y0.1 + (Rows.uptoBulk y1.1 + (Rows.uptoBulk y2.1 + (Rows.uptoBulk y3.1 + (Rows.uptoBulk y4.1 + 0)))) + 1 := by rw [hx]; rfl
    have h1 : nm.data.toList.length + 1 ≤ Rows.uptoBulk y1.1 := by rw [d1]; simp [Rows.uptoBulk]
    have h4 : s.data.toList.length + 1 ≤ Rows.uptoBulk y4.1 := by rw [d4]; simp [Rows.uptoBulk]
    refine ⟨⟨k, nm.data.toList, path, i, s.data.toList⟩, ⟨a2, c2', by simp only [str_back], hS⟩, ?_⟩
    unfold massA
    simp only
    omega
set_option maxRecDepth 100000 in
/-- A call that came in. -/
theorem open_callE {w : World} {fuel : Nat} (cs : List Value) (x : DataW H × List MemPlace) (h : DataW.trod enc Tryz.prog w 0 (fun _ => true) true fuel 33 cs = some x) : ∃ d : CallD, CallR anyB w cs d ∧ massC d ≤ Rows.uptoBulk x.1 := by
  have hC : Tryz.prog.cellsOf 33 = 2 := by kernel_rfl
  have c2 : Tryz.prog.cellsOf 9 = 1 := by kernel_rfl
  have c4 : Tryz.prog.cellsOf 31 = 1 := by kernel_rfl
  obtain ⟨xs, n, hfu, hx, hcl, hlen, hg⟩ := DataW.trod_struct Tryz.underlying33 h
  rw [hC] at hcl
  match cs, hcl, xs, hlen with
  | [v0, v1], _, [y0, y1], _ =>
    have g0 := hg 0 _ rfl
    have g1 := hg 1 _ rfl
    simp [c2, c4] at g0 g1
    obtain ⟨nm, e0, d0, _⟩ := DataW.trod_string Tryz.underlying9 g0
    obtain ⟨a1, c1', args, e1, hS, hS1⟩ := open_list (size := 5) Tryz.underlying31 (by kernel_rfl) (by decide) ArgR massA (fun n2 _ cs x h => open_argE cs x h) g1
    simp at e0 e1
    subst e0; subst e1
    have hb : Rows.uptoBulk x.1 = Rows.uptoBulk y0.1 + (Rows.uptoBulk y1.1 + 0) + 1 := by rw [hx]; rfl
    have h0 : nm.data.toList.length + 1 ≤ Rows.uptoBulk y0.1 := by rw [d0]; simp [Rows.uptoBulk]
    refine ⟨⟨nm.data.toList, args⟩, ⟨a1, c1', by simp only [str_back], hS⟩, ?_⟩
    unfold massC
    simp only
    omega
set_option maxRecDepth 100000 in
/-- A node that came in. -/
theorem open_nodeE {w : World} : ∀ (fuel m : Nat), fuel ≤ m → ∀ (cs : List Value) (x : DataW H × List MemPlace), DataW.trod enc Tryz.prog w 0 (fun _ => true) true fuel 61 cs = some x →
    ∃ d : NT m, NodeR m anyB w cs d ∧ massN m d ≤ Rows.uptoBulk x.1 := by
  have hC : Tryz.prog.cellsOf 61 = 9 := by kernel_rfl
  have c1 : Tryz.prog.cellsOf 3 = 1 := by kernel_rfl
  have c2 : Tryz.prog.cellsOf 9 = 1 := by kernel_rfl
  have c3 : Tryz.prog.cellsOf 22 = 1 := by kernel_rfl
  have c4 : Tryz.prog.cellsOf 41 = 1 := by kernel_rfl
  intro fuel
  induction fuel using Nat.strongRecOn with
  | _ fuel ih =>
    intro m hm cs x h
    obtain ⟨xs, n, hfu, hx, hcl, hlen, hg⟩ := DataW.trod_struct Tryz.underlying61 h
    obtain ⟨m, rfl⟩ : ∃ m', m = m' + 1 := ⟨m - 1, by omega⟩
    rw [hC] at hcl
    match cs, hcl, xs, hlen with
    | [v0, v1, v2, v3, v4, v5, v6, v7, v8], _, [y0, y1, y2, y3, y4, y5, y6, y7, y8], _ =>
      have g0 := hg 0 _ rfl
      have g1 := hg 1 _ rfl
      have g2 := hg 2 _ rfl
      have g3 := hg 3 _ rfl
      have g4 := hg 4 _ rfl
      have g5 := hg 5 _ rfl
      have g6 := hg 6 _ rfl
      have g7 := hg 7 _ rfl
      have g8 := hg 8 _ rfl
      simp [c1, c2, c3, c4] at g0 g1 g2 g3 g4 g5 g6 g7 g8
      obtain ⟨k, e0, d0, _⟩ := DataW.trod_int Tryz.underlying3 g0
      obtain ⟨s, e1, d1, _⟩ := DataW.trod_string Tryz.underlying9 g1
      obtain ⟨nm, e2, d2, _⟩ := DataW.trod_string Tryz.underlying9 g2
      obtain ⟨a3, c3', pipe, e3, hP, hP1⟩ := open_list (size := 2) Tryz.underlying22 (by kernel_rfl) (by decide) CallR massC (fun n2 _ cs x h => open_callE cs x h) g3
      obtain ⟨a4, c4', body, e4, hB, hB1⟩ := open_list (size := 9) Tryz.underlying41 hC (by decide) (NodeR m) (massN m) (fun n2 h2 cs x h => ih n2 (by omega) m (by omega) cs x h) g4
      obtain ⟨a5, c5', els, e5, hE, hE1⟩ := open_list (size := 9) Tryz.underlying41 hC (by decide) (NodeR m) (massN m) (fun n2 h2 cs x h => ih n2 (by omega) m (by omega) cs x h) g5
      obtain ⟨pos, e6, d6, _⟩ := DataW.trod_int Tryz.underlying3 g6
      obtain ⟨esc, e7, d7, _⟩ := DataW.trod_int Tryz.underlying3 g7
      obtain ⟨unit, e8, d8, _⟩ := DataW.trod_int Tryz.underlying3 g8
      simp at e0 e1 e2 e3 e4 e5 e6 e7 e8
      subst e0; subst e1; subst e2; subst e3; subst e4; subst e5; subst e6; subst e7; subst e8
      have hb : Rows.uptoBulk x.1 = Rows.uptoBulk y0.1 + (Rows.uptoBulk y1.1 + (Rows.uptoBulk y2.1 + (Rows.uptoBulk y3.1 + (Rows.uptoBulk y4.1 + (Rows.uptoBulk y5.1 + (Rows.uptoBulk y6.1 + (Rows.uptoBulk y7.1 + (Rows.uptoBulk y8.1 + 0)))))))) + 1 := by rw [hx]; rfl
      have h1 : s.data.toList.length + 1 ≤ Rows.uptoBulk y1.1 := by rw [d1]; simp [Rows.uptoBulk]
      have h2 : nm.data.toList.length + 1 ≤ Rows.uptoBulk y2.1 := by rw [d2]; simp [Rows.uptoBulk]
      refine ⟨(⟨k, s.data.toList, nm.data.toList, pipe, body, els, pos, esc, unit⟩ : NN (NT m)), ⟨a3, c3', a4, c4', a5, c5', by simp only [str_back], hP, hB, hE⟩, ?_⟩
      rw [massN_succ]
      simp only
      omega
end
set_option maxRecDepth 100000 in
/-- Nodes that came in. -/
theorem open_nodes {H : Type} {enc : TypeId × Value → H} {w : World} {r : Reach} {b0 : Nat} {v : Value} {d : DataW H} {p : List MemPlace} (hv : Value.okWide Tryz.prog w r b0 41 v) (h : DataW.Trod enc Tryz.prog w 0 (fun _ => true) true 41 v d p) :
    ∃ (n : Nat) (a : Option Addr) (c : Nat) (l : List (NT (n + 1))), v = .slice a l.length c ∧ AtR (NodeR (n + 1)) 9 anyB w a l ∧ sumBy (massN (n + 1)) l ≤ Rows.uptoBulk d := by
  obtain ⟨a0, len, cap, rfl⟩ := okWide_slice Tryz.underlying41 hv
  obtain ⟨fuel, hf⟩ := h
  have hf' : DataW.trod enc Tryz.prog w 0 (fun _ => true) true fuel 41 [.slice a0 len cap] = some (d, p) := hf
  obtain ⟨a, c, l, he, h1, h2⟩ := open_list (size := 9) Tryz.underlying41 (by kernel_rfl) (by decide) (NodeR (fuel + 1)) (massN (fuel + 1)) (fun n2 h2 cs x h => open_nodeE n2 (fuel + 1) (by omega) cs x h) hf'
  simp at he
  obtain ⟨rfl, rfl, rfl⟩ := he
  have h2 : sumBy (massN (fuel + 1)) l + 1 ≤ Rows.uptoBulk d := h2
  exact ⟨fuel, a0, cap, l, rfl, h1, by omega⟩
set_option maxRecDepth 100000 in
/-- Nodes behind the call. -/
theorem again_nodes {H : Type} {enc : TypeId × Value → H} {W W' : World} {v : Value} {d : DataW H} {ps : List MemPlace} (h : DataW.Trod enc Tryz.prog W 0 (fun _ => true) true 41 v d ps) (hb : Below W.heap.size W W') (hlt : ∀ x ∈ ps, x.block < W.heap.size) (sp : Nat → Bool) (hsp : ∀ x ∈ ps, sp x.block = true) :
    DataW.Trod enc Tryz.prog W' 0 sp true 41 v d ps :=
  WideElems.Trod_stays laidOutV (by kernel_rfl) (of_decide_eq_true (by kernel_rfl)) h (fun x hx => hb.same (hlt x hx)) hsp
end Go.Proofs.YtnepogddjinpoaaGreatDoor
