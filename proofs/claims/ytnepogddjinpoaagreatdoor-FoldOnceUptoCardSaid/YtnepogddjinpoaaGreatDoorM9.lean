/-
  PLAIN LAWS of many texts, in one.
-/
import Derived.Test.YtnepogddjinpoaaGreatDoorM1
import Derived.Test.YtnepogddjinpoaaGreatDoorRows
import Derived.WalkKit
import Derived.ProofKit
import Derived.OpenShut
import Derived.ShutString
import Derived.Lib.SmallJoins
import Derived.Deep.Slices
import Derived.Carry
namespace Go.Proofs.YtnepogddjinpoaaGreatDoor
open Go.ChangeShapes Go.WideShapes Go.ChangeAt Go.RowKit Go.Joins Go.Deep
set_option linter.unusedVariables false
set_option linter.unusedSimpArgs false
set_option linter.unnecessarySimpa false

theorem pick_list {α : Type} {p : Nat → α → Prop} : ∀ n, (∀ i, i < n → ∃ x, p i x) → ∃ l : List α, l.length = n ∧ ∀ i x, l[i]? = some x → p i x := by
  intro n
  induction n with
  | zero => intro _; exact ⟨[], rfl, fun i x h => by simp at h⟩
  | succ n ih =>
    intro h
    obtain ⟨l, hl, hp⟩ := ih fun i hi => h i (by omega)
    obtain ⟨x, hx⟩ := h n (by omega)
    refine ⟨l ++ [x], by simp [hl], fun i y hy => ?_⟩
    rcases Nat.lt_or_ge i n with h1 | h1
    · rw [List.getElem?_append_left (by omega)] at hy
      exact hp i y hy
    · have h2 := (List.getElem?_eq_some_iff.1 hy).1
      simp at h2
      obtain rfl : i = n := by omega
      rw [List.getElem?_append_right (by omega), hl] at hy
      simp at hy
      subst hy; exact hx
theorem lt_of_cell {w : World} {a : Addr} {v : Value} (h : w.cell? a = some v) : a.block < w.heap.size := by
  rcases Nat.lt_or_ge a.block w.heap.size with h1 | h1
  · exact h1
  · have : w.heap[a.block]? = none := Array.getElem?_eq_none h1
    unfold World.cell? at h
    rw [this] at h
    simp at h
theorem plain_of_cell {w : World} {a : Addr} {v : Value} (h : w.cell? (a.add 0) = some v) : ∃ b off, a = ⟨b, off, none⟩ := by
  obtain ⟨b, off, sp⟩ := a
  have := World.cell?_spot h
  refine ⟨b, off, ?_⟩
  simp [Addr.add] at this
  rw [this]
theorem bulk_mem {H : Type} : ∀ (l : List (DataW H)) (d : DataW H), d ∈ l → Rows.uptoBulk d ≤ Rows.uptoBulkAll l := by
  intro l
  induction l with
  | nil => intro d h; cases h
  | cons x l ih =>
    intro d h
    simp only [Rows.uptoBulkAll]
    rcases List.mem_cons.1 h with rfl | h
    · omega
    · have := ih d h; omega
section
variable {H : Type} {enc : TypeId × Value → H}
end
set_option maxRecDepth 100000 in
theorem laidOutV : laidOutB Tryz.prog = true := by kernel_rfl
end Go.Proofs.YtnepogddjinpoaaGreatDoor

namespace Go.Proofs.YtnepogddjinpoaaGreatDoor
open Go.ChangeShapes Go.WideShapes Go.ChangeAt Go.RowKit Go.Joins Go.Deep
set_option linter.unusedVariables false

theorem bulk_map {H : Type} : ∀ (l : List (DataW H × List MemPlace)), Rows.uptoBulkAll (l.map (·.1)) = sumBy (fun e => Rows.uptoBulk e.1) l := by
  intro l
  induction l with
  | nil => rfl
  | cons x l ih => simp only [List.map_cons, Rows.uptoBulkAll, sumBy, ih]
section
variable {H : Type} {enc : TypeId × Value → H}
end
end Go.Proofs.YtnepogddjinpoaaGreatDoor

namespace Go.Proofs.YtnepogddjinpoaaGreatDoor
open Go.ChangeShapes Go.WideShapes Go.ChangeAt Go.RowKit Go.Joins Go.Deep
set_option linter.unusedVariables false
set_option linter.unusedSimpArgs false
section
variable {H : Type} {enc : TypeId × Value → H}
/-- A list of structs that came in: its elements as they open. -/
theorem open_list {w : World} {ST T : TypeId} {size : Nat} (hST : Tryz.prog.underlying ST = some (.slice T)) (hC : Tryz.prog.cellsOf T = size) (hp : 0 < size) {α : Type} (R : Rel α) (f : α → Nat) {fuel : Nat}
    (op : ∀ n2, n2 + 1 = fuel → ∀ (cs : List Value) (x : DataW H × List MemPlace), DataW.trod enc Tryz.prog w 0 (fun _ => true) true n2 T cs = some x → ∃ d : α, R anyB w cs d ∧ f d ≤ Rows.uptoBulk x.1)
    {cs : List Value} {x : DataW H × List MemPlace} (h : DataW.trod enc Tryz.prog w 0 (fun _ => true) true fuel ST cs = some x) :
    ∃ (a : Option Addr) (c : Nat) (l : List α), cs = [.slice a l.length c] ∧ AtR R size anyB w a l ∧ sumBy f l + 1 ≤ Rows.uptoBulk x.1 := by
  rcases DataW.trod_slice hST h with ⟨rfl, rfl⟩ | ⟨a, len, cap, elems, rest, n2, hn2, e3, hy3, _, hl, _, hln, hel, _, _⟩
  · exact ⟨none, 0, [], rfl, AtR.nil, by simp [sumBy, Rows.uptoBulk]⟩
  · subst e3
    rw [hC] at hel
    have each : ∀ r, r < len → ∃ z : α, (∃ vs : List Value, vs.length = size ∧ (∀ t u, vs[t]? = some u → w.cell? (a.add (r * size + t)) = some u) ∧ R anyB w vs z) ∧ ∀ y, elems[r]? = some y → f z ≤ Rows.uptoBulk y.1 := by
      intro r hr
      have h1 := hel r hr
      have hie : r < elems.length := by omega
      rw [List.getElem?_eq_getElem hie] at h1
      obtain ⟨cs', h2, h3⟩ := Option.bind_eq_some_iff.1 h1
      obtain ⟨_, hl2, hc⟩ := World.cells?_some h2
      obtain ⟨z, hz, hz2⟩ := op n2 hn2.symm cs' _ h3
      refine ⟨z, ⟨cs', hl2, fun t u ht => ?_, hz⟩, fun y hy => ?_⟩
      · have ht2 : t < size := by rw [← hl2]; exact (List.getElem?_eq_some_iff.1 ht).1
        have := hc t ht2
        rw [add_add] at this
        rw [this]; exact ht
      · rw [List.getElem?_eq_getElem hie] at hy
        injection hy with hy
        rw [← hy]; exact hz2
    obtain ⟨l, hll, hpp⟩ := pick_list len each
    refine ⟨some a, cap, l, by rw [hll], ?_, ?_⟩
    · intro r z hz
      obtain ⟨⟨vs, hvl, hvc, hR⟩, _⟩ := hpp r z hz
      have hj : r < l.length := (List.getElem?_eq_some_iff.1 hz).1
      obtain ⟨⟨vs0, hvl0, hvc0, _⟩, _⟩ := hpp 0 (l[0]'(by omega)) (List.getElem?_eq_getElem (by omega))
      have h0 := hvc0 0 (vs0[0]'(by omega)) (List.getElem?_eq_getElem (by omega))
      rw [Nat.zero_mul, Nat.zero_add] at h0
      obtain ⟨b, off, rfl⟩ := plain_of_cell h0
      have h9 := hvc 0 (vs[0]'(by omega)) (List.getElem?_eq_getElem (by omega))
      rw [add_plain] at h9
      refine ⟨b, off, vs, rfl, lt_of_cell h9, trivial, hvl, fun t u ht => ?_, hR⟩
      have := hvc t u ht
      rw [add_plain] at this
      rw [Nat.add_assoc]; exact this
    · have hz := sumBy_zip f (fun e : DataW H × List MemPlace => Rows.uptoBulk e.1) l elems (by omega) (fun j z y hz hy => (hpp j z hz).2 y hy)
      rw [hy3]
      simp only [Rows.uptoBulk]
      rw [bulk_map]
      omega
theorem str_back (s : ByteArray) : (⟨s.data.toList.toArray⟩ : ByteArray) = s := by cases s; simp
/-- A text that came in, as an element. -/
theorem open_strE {w : World} {fuel : Nat} (cs : List Value) (x : DataW H × List MemPlace) (h : DataW.trod enc Tryz.prog w 0 (fun _ => true) true fuel 9 cs = some x) : ∃ d : List UInt8, StrR anyB w cs d ∧ d.length + 1 ≤ Rows.uptoBulk x.1 := by
  obtain ⟨s, e1, e2, _⟩ := DataW.trod_string Tryz.underlying9 h
  refine ⟨s.data.toList, ?_, ?_⟩
  · subst e1
    show _ = _
    rw [str_back]
  · rw [e2]; simp [Rows.uptoBulk]
set_option maxRecDepth 100000 in
/-- An argument that came in. -/
theorem open_argE {w : World} {fuel : Nat} (cs : List Value) (x : DataW H × List MemPlace) (h : DataW.trod enc Tryz.prog w 0 (fun _ => true) true fuel 35 cs = some x) : ∃ d : ArgD, ArgR anyB w cs d ∧ massA d ≤ Rows.uptoBulk x.1 := by
  have hC : Tryz.prog.cellsOf 35 = 5 := by kernel_rfl
  have c1 : Tryz.prog.cellsOf 3 = 1 := by kernel_rfl
  have c2 : Tryz.prog.cellsOf 9 = 1 := by kernel_rfl
  have c4 : Tryz.prog.cellsOf 24 = 1 := by kernel_rfl
  obtain ⟨xs, n, hfu, hx, hcl, hlen, hg⟩ := DataW.trod_struct Tryz.underlying35 h
  rw [hC] at hcl
  match cs, hcl, xs, hlen with
  | [v0, v1, v2, v3, v4], _, [y0, y1, y2, y3, y4], _ =>
    have g0 := hg 0 _ rfl
    have g1 := hg 1 _ rfl
    have g2 := hg 2 _ rfl
    have g3 := hg 3 _ rfl
    have g4 := hg 4 _ rfl
    simp [c1, c2, c4] at g0 g1 g2 g3 g4
    obtain ⟨k, e0, d0, _⟩ := DataW.trod_int Tryz.underlying3 g0
    obtain ⟨nm, e1, d1, _⟩ := DataW.trod_string Tryz.underlying9 g1
    obtain ⟨a2, c2', path, e2, hS, hS1⟩ := open_list (size := 1) Tryz.underlying24 (by kernel_rfl) (by decide) StrR (fun p : List UInt8 => p.length + 1) (fun n2 _ cs x h => open_strE cs x h) g2
    obtain ⟨i, e3, d3, _⟩ := DataW.trod_int Tryz.underlying3 g3
    obtain ⟨s, e4, d4, _⟩ := DataW.trod_string Tryz.underlying9 g4
    simp at e0 e1 e2 e3 e4
    subst e0; subst e1; subst e2; subst e3; subst e4
    have hb : Rows.uptoBulk x.1 = Rows.uptoBulk y0.1 + (Rows.uptoBulk y1.1 + (Rows.uptoBulk y2.1 + (Rows.uptoBulk y3.1 + (Rows.uptoBulk y4.1 + 0)))) + 1 := by rw [hx]; rfl
    have h1 : nm.data.toList.length + 1 ≤ Rows.uptoBulk y1.1 := by rw [d1]; simp [Rows.uptoBulk]
    have h4 : s.data.toList.length + 1 ≤ Rows.uptoBulk y4.1 := by rw [d4]; simp [Rows.uptoBulk]
    refine ⟨⟨k, nm.data.toList, path, i, s.data.toList⟩, ⟨a2, c2', by simp only [str_back], hS⟩, ?_⟩
    unfold massA
    simp only
    omega
end
end Go.Proofs.YtnepogddjinpoaaGreatDoor
