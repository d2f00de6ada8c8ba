/-
  A list of values that a function builds: its row, and what each element is.
-/
import Derived.Test.YtdnmgpidfjkiaaaDoorM2
import Derived.Test.YtdnmgpidfjkiaaaDoorM1
import Derived.Test.YtdnmgpidfjkiaaaDoorProg
import Derived.WalkKit
import Derived.Deep.RegionLaw
import Derived.Deep.AppendLies
namespace Go.Proofs.YtdnmgpidfjkiaaaDoor
open Go.RowKit
set_option linter.unusedVariables false

/-- A value's five parts. -/
structure VF where
  k : Int
  i : Int
  s : ByteArray
  a : Option Addr
  n : Nat
  c : Nat
  a2 : Option Addr
  n2 : Nat
  c2 : Nat
abbrev VF.val (e : VF) : Value := valV e.k e.i e.s e.a e.n e.c e.a2 e.n2 e.c2
def VF.cells (e : VF) : List Value := [.int .i64 e.k, .int .i64 e.i, .string e.s, .slice e.a e.n e.c, .slice e.a2 e.n2 e.c2]
theorem VF.cells_len (e : VF) : e.cells.length = 5 := rfl
theorem IsV.shape {U : World → Nat → Prop} {w : World} : ∀ {n : Nat} {v : Value} {d : VT n}, IsV U w n v d → ∃ e : VF, v = e.val := by
  intro n v d h
  cases n with
  | zero => exact h.elim
  | succ n =>
    obtain ⟨a, c, a2, c2, rfl, _⟩ := h.parts
    exact ⟨⟨_, _, _, a, _, c, a2, _, c2⟩, rfl⟩
theorem flat5_len (es : List VF) : (es.flatMap VF.cells).length = es.length * 5 := by
  induction es with
  | nil => rfl
  | cons e es ih => rw [List.flatMap_cons, List.length_append, ih, e.cells_len, List.length_cons]; omega
theorem flat5_get : ∀ (es : List VF) (r : Nat) (e : VF) (t : Nat), es[r]? = some e → t < 5 → (es.flatMap VF.cells)[r * 5 + t]? = e.cells[t]? := by
  intro es
  induction es with
  | nil => intro r e t h; simp at h
  | cons x es ih =>
    intro r e t h ht
    rw [List.flatMap_cons]
    cases r with
    | zero =>
      simp at h; subst h
      rw [List.getElem?_append_left (by rw [x.cells_len]; omega)]
      simp
    | succ r =>
      rw [List.getElem?_append_right (by rw [x.cells_len]; omega), x.cells_len]
      rw [show (r + 1) * 5 + t - 5 = r * 5 + t by omega]
      exact ih r e t (by simpa using h) ht
/-- The blocks of a row's elements: from base on, and not the row's own. -/
def besideB (base : Nat) (o : Option Nat) : World → Nat → Prop := fun w b => freshB base w b ∧ some b ≠ o
structure RowV (n base : Nat) (w : World) (v : Value) (es : List VF) (xs : List (VT n)) : Prop where
  own : w.ownsRow base 26 5 v es.length (es.flatMap VF.cells)
  len : es.length = xs.length
  each : ∀ (r : Nat) (e : VF) (x : VT n), es[r]? = some e → xs[r]? = some x → IsV (besideB base v.ownBlock) w n e.val x
theorem stays_beside {base : Nat} {o : Option Nat} {w w' : World} (hs : w.heap.size ≤ w'.heap.size) (h : ∀ b, b < w.heap.size → base ≤ b → some b ≠ o → w'.heap[b]? = w.heap[b]?) : Stays (besideB base o) (besideB base o) w w' :=
  ⟨hs, fun b h1 ⟨⟨h2, cs, t, h3⟩, h4⟩ => ⟨h b h1 h2 h4, ⟨h2, cs, t, (h b h1 h2 h4).trans h3⟩, h4⟩⟩
theorem RowV.nil (n base : Nat) (w : World) : RowV n base w (.slice none 0 0) [] [] := ⟨World.ownsRow_nil _ _ _ _, rfl, fun r e x h => by simp at h⟩
theorem RowV.made {n base : Nat} {w : World} {v : Value} (h : w.ownsRow base 26 5 v 0 []) : RowV n base w v [] [] := ⟨h, rfl, fun r e x h => by simp at h⟩
theorem own_keepV {w w' : World} {base n size : Nat} {e : TypeId} {v : Value} {xs : List Value} (h : w.ownsRow base e size v n xs) (hb : Below w.heap.size w w') : w'.ownsRow base e size v n xs :=
  h.kept (row := none) ⟨hb.os, hb.tape, hb.output, hb.size, fun k hk _ => hb.block k hk⟩ (by cases h : v.ownBlock <;> simp)
theorem own_sliceV {w : World} {base n size : Nat} {e : TypeId} {v : Value} {xs : List Value} (h : w.ownsRow base e size v n xs) : ∃ A c, v = .slice A n c := by
  rcases h.2 with ⟨rfl, rfl⟩ | ⟨g, cap, cur, rfl, _⟩
  · exact ⟨_, _, rfl⟩
  · exact ⟨_, _, rfl⟩
theorem own_setV {w : World} {base n size : Nat} {e : TypeId} {v : Value} {xs : List Value} (h : w.ownsRow base e size v n xs) {p : Addr} (hp : p.block < base) (u : Value) : (w.setCell p u).ownsRow base e size v n xs := by
  refine h.kept (row := some p.block) ⟨rfl, rfl, rfl, by simp, fun k hk hne => Below.heap_setCell w p _ k (fun e => hne (by rw [e]))⟩ (.inr ?_)
  intro e
  have := (h.lt _ e).1
  omega
theorem RowV.below {n base : Nat} {w w' : World} {v : Value} {es : List VF} {xs : List (VT n)} (h : RowV n base w v es xs) (hb : Below w.heap.size w w') : RowV n base w' v es xs :=
  ⟨own_keepV h.own hb, h.len, fun r e x he hx => IsV.on (stays_beside hb.size fun b h1 _ _ => hb.block b h1) n _ _ (h.each r e x he hx)⟩
theorem RowV.set_ {n base : Nat} {w : World} {v : Value} {es : List VF} {xs : List (VT n)} (h : RowV n base w v es xs) {p : Addr} (hp : p.block < base) (u : Value) : RowV n base (w.setCell p u) v es xs :=
  ⟨own_setV h.own hp u, h.len, fun r e x he hx => IsV.on (stays_beside (by simp) fun b h1 h2 _ => Below.heap_setCell w p u b (by omega)) n _ _ (h.each r e x he hx)⟩
theorem RowV.slice {n base : Nat} {w : World} {v : Value} {es : List VF} {xs : List (VT n)} (h : RowV n base w v es xs) : ∃ A c, v = .slice A xs.length c := by
  rcases h.own.2 with ⟨rfl, h1⟩ | ⟨g, cap, cur, rfl, _⟩
  · exact ⟨none, 0, by rw [← h.len, h1]⟩
  · exact ⟨_, _, by rw [← h.len]⟩
/-- One element more: made by a call from world w on (its blocks begin at M), laid, and appended. -/
theorem RowV.snoc {n base M g cap : Nat} {w wA w4 : World} {v : Value} {es : List VF} {xs : List (VT n)} {e : VF} {x : VT n} (h : RowV n base w v es xs) (hV : IsV (freshB M) w n e.val x)
    (hM : ∀ k, v.ownBlock = some k → k < M) (hbM : base ≤ M) (hA : Below w.heap.size w wA) (hg : wA.grownBy w4 v.ownBlock)
    (hown : w4.ownsRow base 26 5 (.slice (some ⟨g, 0, none⟩) (es.length + 1) cap) (es.length + 1) (es.flatMap VF.cells ++ e.cells)) (hat : v.ownBlock = some g ∨ g = wA.heap.size) :
    RowV n base w4 (.slice (some ⟨g, 0, none⟩) (es.length + 1) cap) (es ++ [e]) (xs ++ [x]) := by
  have hsz : w.heap.size ≤ w4.heap.size := Nat.le_trans hA.size hg.size
  have hkeep : ∀ b, b < w.heap.size → some b ≠ v.ownBlock → w4.heap[b]? = w.heap[b]? := fun b h1 h2 => (hg.block b (Nat.lt_of_lt_of_le h1 hA.size) h2).trans (hA.block b h1)
  have hne : ∀ b, b < w.heap.size → some b ≠ v.ownBlock → some b ≠ some g := by
    intro b h1 h2 e
    injection e with e
    subst e
    rcases hat with h3 | h3
    · exact h2 h3.symm
    · have := hA.size; omega
  refine ⟨by simpa using hown, by simp [h.len], ?_⟩
  intro r e' x' he hx
  show IsV (besideB base (some g)) w4 n e'.val x'
  rcases Nat.lt_or_ge r es.length with hr | hr
  · rw [List.getElem?_append_left hr] at he
    rw [List.getElem?_append_left (by rw [← h.len]; exact hr)] at hx
    refine IsV.on (U := besideB base v.ownBlock) ⟨hsz, ?_⟩ n _ _ (h.each r e' x' he hx)
    rintro b h1 ⟨⟨h2, cs, t, h3⟩, h4⟩
    exact ⟨hkeep b h1 h4, ⟨h2, cs, t, (hkeep b h1 h4).trans h3⟩, hne b h1 h4⟩
  · obtain rfl : r = es.length := by
      have := (List.getElem?_eq_some_iff.1 he).1
      simp at this; omega
    rw [List.getElem?_append_right (by omega)] at he
    rw [List.getElem?_append_right (by rw [h.len]; omega), ← h.len] at hx
    simp at he hx
    subst he; subst hx
    refine IsV.on (U := freshB M) ⟨hsz, ?_⟩ n _ _ hV
    rintro b h1 ⟨h2, cs, t, h3⟩
    have h4 : some b ≠ v.ownBlock := by
      intro e
      have := hM b e.symm
      omega
    exact ⟨hkeep b h1 h4, ⟨Nat.le_trans hbM h2, cs, t, (hkeep b h1 h4).trans h3⟩, hne b h1 h4⟩
theorem zaddV (g j : Nat) : (⟨g, 0, none⟩ : Addr).add j = ⟨g, j, none⟩ := by unfold Addr.add; split <;> simp_all
/-- The list as a whole: values that lie one behind the other. -/
theorem RowV.vals {n base N : Nat} {w : World} {v : Value} {es : List VF} {xs : List (VT n)} {A : Option Addr} {m c : Nat} (h : RowV n base w v es xs) (hv : v = .slice A m c) (hN : N ≤ base) : ValsAt (freshB N) w (IsV (freshB N) w n) A xs := by
  intro r x hx
  have hr := (List.getElem?_eq_some_iff.1 hx).1
  obtain ⟨e, he⟩ : ∃ e, es[r]? = some e := ⟨_, List.getElem?_eq_getElem (by rw [h.len]; exact hr)⟩
  obtain ⟨g, cap, cur, hv2, hbg, hg, hrest⟩ : ∃ g cap cur, v = .slice (some ⟨g, 0, none⟩) es.length cap ∧ base ≤ g ∧ w.heap[g]? = some (.cells cur 26) ∧ True := by
    rcases h.own.2 with ⟨_, h1⟩ | ⟨g, cap, cur, hv2, hb, hg, _⟩
    · rw [h.len] at h1; omega
    · exact ⟨g, cap, cur, hv2, hb, hg, trivial⟩
  rw [hv] at hv2
  injection hv2 with hA _ _
  have hlt : g < w.heap.size := (Array.getElem?_eq_some_iff.1 hg).1
  have hc : ∀ t u, e.cells[t]? = some u → w.cell? ⟨g, 0 + r * 5 + t, none⟩ = some u := by
    intro t u hu
    have ht : t < 5 := by have := (List.getElem?_eq_some_iff.1 hu).1; rw [e.cells_len] at this; exact this
    have := h.own.cells (g := g) (by rw [hv, hA]; rfl) (r * 5 + t) u ((flat5_get es r e t he ht).trans hu)
    rw [zaddV] at this
    rw [Nat.zero_add]; exact this
  refine ⟨g, 0, hA, hlt, ⟨by omega, cur, _, hg⟩, e.k, e.i, e.s, e.a, e.n, e.c, e.a2, e.n2, e.c2, ⟨hc 0 _ rfl, hc 1 _ rfl, hc 2 _ rfl, hc 3 _ rfl, hc 4 _ rfl⟩, ?_⟩
  refine IsV.on (U := besideB base v.ownBlock) ⟨Nat.le_refl _, ?_⟩ n _ _ (h.each r e x he hx)
  rintro b h1 ⟨⟨h2, h3⟩, h4⟩
  exact ⟨rfl, Nat.le_trans hN h2, h3⟩
theorem info_val : (Tryd.prog.info? 26).map (fun i => (i.zero, i.size, i.bytes)) = some (some (.agg #[.int .i64 0, .int .i64 0, .string ⟨#[]⟩, .slice none 0 0, .slice none 0 0]), 5, 80) := by kernel_rfl
theorem info_strV : (Tryd.prog.info? 9).map (fun i => (i.zero, i.size, i.bytes)) = some (some (.string ⟨#[]⟩), 1, 16) := by kernel_rfl
/-- A list of texts that is the function's own. -/
theorem own_strs {w : World} {base N : Nat} {v : Value} {ks : List (List UInt8)} {A : Option Addr} {m c : Nat} (h : w.ownsRow base 9 1 v ks.length (ks.map fun x => .string ⟨x.toArray⟩)) (hv : v = .slice A m c) (hN : N ≤ base) : StrsAt (freshB N) w A ks := by
  intro r x hx
  have hr := (List.getElem?_eq_some_iff.1 hx).1
  obtain ⟨g, cap, cur, hv2, hbg, hg⟩ : ∃ g cap cur, v = .slice (some ⟨g, 0, none⟩) ks.length cap ∧ base ≤ g ∧ w.heap[g]? = some (.cells cur 9) := by
    rcases h.2 with ⟨_, h1⟩ | ⟨g, cap, cur, hv2, hb, hg, _⟩
    · omega
    · exact ⟨g, cap, cur, hv2, hb, hg⟩
  rw [hv] at hv2
  injection hv2 with hA _ _
  have := h.cells (g := g) (by rw [hv, hA]; rfl) r (.string ⟨x.toArray⟩) (by simp [hx])
  rw [zaddV] at this
  exact ⟨g, 0, hA, (Array.getElem?_eq_some_iff.1 hg).1, ⟨by omega, cur, _, hg⟩, by rw [Nat.zero_add]; exact this⟩
end Go.Proofs.YtdnmgpidfjkiaaaDoor
