/-
  Lists of named values.
-/
import Derived.Test.YtdnmgpidfjkiaaaVOwn
import Derived.Test.YtdnmgpidfjkiaaaVField
namespace Go.Proofs.Ytdnmgpidfjkiaaa
open Go.RowKit
set_option linter.unusedVariables false

/-- A named value's parts. -/
structure NF where
  nm : ByteArray
  f : VF
abbrev NF.val (e : NF) : Value := .agg #[.string e.nm, .int .i64 e.f.k, .int .i64 e.f.i, .string e.f.s, .slice e.f.a e.f.n e.f.c, .slice e.f.a2 e.f.n2 e.f.c2]
def NF.cells (e : NF) : List Value := [.string e.nm, .int .i64 e.f.k, .int .i64 e.f.i, .string e.f.s, .slice e.f.a e.f.n e.f.c, .slice e.f.a2 e.f.n2 e.f.c2]
theorem NF.cells_len (e : NF) : e.cells.length = 6 := rfl
theorem flat6_len (es : List NF) : (es.flatMap NF.cells).length = es.length * 6 := by
  induction es with
  | nil => rfl
  | cons e es ih => rw [List.flatMap_cons, List.length_append, ih, e.cells_len, List.length_cons]; omega
theorem flat6_get : ∀ (es : List NF) (r : Nat) (e : NF) (t : Nat), es[r]? = some e → t < 6 → (es.flatMap NF.cells)[r * 6 + t]? = e.cells[t]? := by
  intro es
  induction es with
  | nil => intro r e t h; simp at h
  | cons x es ih =>
    intro r e t h ht
    rw [List.flatMap_cons]
    cases r with
    | zero =>
      simp at h; subst h
      rw [List.getElem?_append_left (by rw [x.cells_len]; omega)]
      simp
    | succ r =>
      rw [List.getElem?_append_right (by rw [x.cells_len]; omega), x.cells_len]
      rw [show (r + 1) * 6 + t - 6 = r * 6 + t by omega]
      exact ih r e t (by simpa using h) ht
def IsN (U : World → Nat → Prop) (w : World) (n : Nat) (e : NF) (x : List UInt8 × VT n) : Prop := e.nm = ⟨x.1.toArray⟩ ∧ IsV U w n e.f.val x.2
theorem IsN.on {U U' : World → Nat → Prop} {w w' : World} {n : Nat} {e : NF} {x : List UInt8 × VT n} (hs : Stays U U' w w') (h : IsN U w n e x) : IsN U' w' n e x := ⟨h.1, IsV.on hs n _ _ h.2⟩
structure RowN (n base : Nat) (w : World) (v : Value) (es : List NF) (xs : List (List UInt8 × VT n)) : Prop where
  own : w.ownsRow base 58 6 v es.length (es.flatMap NF.cells)
  len : es.length = xs.length
  each : ∀ (r : Nat) (e : NF) (x : List UInt8 × VT n), es[r]? = some e → xs[r]? = some x → IsN (besideB base v.ownBlock) w n e x
theorem RowN.nil (n base : Nat) (w : World) : RowN n base w (.slice none 0 0) [] [] := ⟨World.ownsRow_nil _ _ _ _, rfl, fun r e x h => by simp at h⟩
theorem RowN.made {n base : Nat} {w : World} {v : Value} (h : w.ownsRow base 58 6 v 0 []) : RowN n base w v [] [] := ⟨h, rfl, fun r e x h => by simp at h⟩
theorem RowN.below {n base : Nat} {w w' : World} {v : Value} {es : List NF} {xs : List (List UInt8 × VT n)} (h : RowN n base w v es xs) (hb : Below w.heap.size w w') : RowN n base w' v es xs :=
  ⟨own_keepV h.own hb, h.len, fun r e x he hx => IsN.on (stays_beside hb.size fun b h1 _ _ => hb.block b h1) (h.each r e x he hx)⟩
theorem RowN.set_ {n base : Nat} {w : World} {v : Value} {es : List NF} {xs : List (List UInt8 × VT n)} (h : RowN n base w v es xs) {p : Addr} (hp : p.block < base) (u : Value) : RowN n base (w.setCell p u) v es xs :=
  ⟨own_setV h.own hp u, h.len, fun r e x he hx => IsN.on (stays_beside (by simp) fun b h1 h2 _ => Below.heap_setCell w p u b (by omega)) (h.each r e x he hx)⟩
theorem RowN.slice {n base : Nat} {w : World} {v : Value} {es : List NF} {xs : List (List UInt8 × VT n)} (h : RowN n base w v es xs) : ∃ A c, v = .slice A xs.length c := by
  rcases h.own.2 with ⟨rfl, h1⟩ | ⟨g, cap, cur, rfl, _⟩
  · exact ⟨none, 0, by rw [← h.len, h1]⟩
  · exact ⟨_, _, by rw [← h.len]⟩
/-- One element more: made by a call from world w on (its blocks begin at M), laid, and appended. -/
theorem RowN.snoc {n base M g cap : Nat} {w wA w4 : World} {v : Value} {es : List NF} {xs : List (List UInt8 × VT n)} {e : NF} {x : List UInt8 × VT n} (h : RowN n base w v es xs) (hV : IsN (freshB M) w n e x)
    (hM : ∀ k, v.ownBlock = some k → k < M) (hbM : base ≤ M) (hA : Below w.heap.size w wA) (hg : wA.grownBy w4 v.ownBlock)
    (hown : w4.ownsRow base 58 6 (.slice (some ⟨g, 0, none⟩) (es.length + 1) cap) (es.length + 1) (es.flatMap NF.cells ++ e.cells)) (hat : v.ownBlock = some g ∨ g = wA.heap.size) :
    RowN n base w4 (.slice (some ⟨g, 0, none⟩) (es.length + 1) cap) (es ++ [e]) (xs ++ [x]) := by
  have hsz : w.heap.size ≤ w4.heap.size := Nat.le_trans hA.size hg.size
  have hkeep : ∀ b, b < w.heap.size → some b ≠ v.ownBlock → w4.heap[b]? = w.heap[b]? := fun b h1 h2 => (hg.block b (Nat.lt_of_lt_of_le h1 hA.size) h2).trans (hA.block b h1)
  have hne : ∀ b, b < w.heap.size → some b ≠ v.ownBlock → some b ≠ some g := by
    intro b h1 h2 e
    injection e with e
    subst e
    rcases hat with h3 | h3
    · exact h2 h3.symm
    · have := hA.size; omega
  refine ⟨by simpa using hown, by simp [h.len], ?_⟩
  intro r e' x' he hx
  show IsN (besideB base (some g)) w4 n e' x'
  rcases Nat.lt_or_ge r es.length with hr | hr
  · rw [List.getElem?_append_left hr] at he
    rw [List.getElem?_append_left (by rw [← h.len]; exact hr)] at hx
    refine IsN.on (U := besideB base v.ownBlock) ⟨hsz, ?_⟩ (h.each r e' x' he hx)
    rintro b h1 ⟨⟨h2, cs, t, h3⟩, h4⟩
    exact ⟨hkeep b h1 h4, ⟨h2, cs, t, (hkeep b h1 h4).trans h3⟩, hne b h1 h4⟩
  · obtain rfl : r = es.length := by
      have := (List.getElem?_eq_some_iff.1 he).1
      simp at this; omega
    rw [List.getElem?_append_right (by omega)] at he
    rw [List.getElem?_append_right (by rw [h.len]; omega), ← h.len] at hx
    simp at he hx
    subst he; subst hx
    refine IsN.on (U := freshB M) ⟨hsz, ?_⟩ hV
    rintro b h1 ⟨h2, cs, t, h3⟩
    have h4 : some b ≠ v.ownBlock := by
      intro e
      have := hM b e.symm
      omega
    exact ⟨hkeep b h1 h4, ⟨Nat.le_trans hbM h2, cs, t, (hkeep b h1 h4).trans h3⟩, hne b h1 h4⟩
/-- Named values that lie one behind the other. -/
def NamesAt (U : World → Nat → Prop) (w : World) (n : Nat) (a : Option Addr) (l : List (List UInt8 × VT n)) : Prop :=
  ∀ (j : Nat) (x : List UInt8 × VT n), l[j]? = some x → ∃ (b off : Nat) (e : NF), a = some ⟨b, off, none⟩ ∧ b < w.heap.size ∧ U w b ∧ w.cell? ⟨b, off + j * 6, none⟩ = some (.string e.nm) ∧ Five w b (off + j * 6 + 1) e.f.k e.f.i e.f.s e.f.a e.f.n e.f.c e.f.a2 e.f.n2 e.f.c2 ∧ IsN U w n e x
theorem NamesAt.on {U U' : World → Nat → Prop} {w w' : World} {n : Nat} {a : Option Addr} {l : List (List UInt8 × VT n)} (h : NamesAt U w n a l) (hs : Stays U U' w w') : NamesAt U' w' n a l := by
  intro j x hx
  obtain ⟨b, off, e, ha, hb, hu, h0, h5, hn⟩ := h j x hx
  obtain ⟨h1, h2⟩ := hs.block b hb hu
  exact ⟨b, off, e, ha, Nat.lt_of_lt_of_le hb hs.size, h2, (cellB h1 _).trans h0, h5.on h1, hn.on hs⟩
theorem RowN.names {n base N : Nat} {w : World} {v : Value} {es : List NF} {xs : List (List UInt8 × VT n)} {A : Option Addr} {m c : Nat} (h : RowN n base w v es xs) (hv : v = .slice A m c) (hN : N ≤ base) : NamesAt (freshB N) w n A xs := by
  intro r x hx
  have hr := (List.getElem?_eq_some_iff.1 hx).1
  obtain ⟨e, he⟩ : ∃ e, es[r]? = some e := ⟨_, List.getElem?_eq_getElem (by rw [h.len]; exact hr)⟩
  obtain ⟨g, cap, cur, hv2, hbg, hg⟩ : ∃ g cap cur, v = .slice (some ⟨g, 0, none⟩) es.length cap ∧ base ≤ g ∧ w.heap[g]? = some (.cells cur 58) := by
    rcases h.own.2 with ⟨_, h1⟩ | ⟨g, cap, cur, hv2, hb, hg, _⟩
    · rw [h.len] at h1; omega
    · exact ⟨g, cap, cur, hv2, hb, hg⟩
  rw [hv] at hv2
  injection hv2 with hA _ _
  have hlt : g < w.heap.size := (Array.getElem?_eq_some_iff.1 hg).1
  have hc : ∀ t u, e.cells[t]? = some u → w.cell? ⟨g, 0 + r * 6 + t, none⟩ = some u := by
    intro t u hu
    have ht : t < 6 := by have := (List.getElem?_eq_some_iff.1 hu).1; rw [e.cells_len] at this; exact this
    have := h.own.cells (g := g) (by rw [hv, hA]; rfl) (r * 6 + t) u ((flat6_get es r e t he ht).trans hu)
    rw [zaddV] at this
    rw [Nat.zero_add]; exact this
  refine ⟨g, 0, e, hA, hlt, ⟨by omega, cur, _, hg⟩, hc 0 _ rfl, ⟨hc 1 _ rfl, hc 2 _ rfl, hc 3 _ rfl, hc 4 _ rfl, hc 5 _ rfl⟩, ?_⟩
  refine IsN.on (U := besideB base v.ownBlock) ⟨Nat.le_refl _, ?_⟩ (h.each r e x he hx)
  rintro b h1 ⟨⟨h2, h3⟩, h4⟩
  exact ⟨rfl, Nat.le_trans hN h2, h3⟩
theorem info_named : (Try.prog.info? 58).map (fun i => (i.zero, i.size, i.bytes)) = some (some (.agg #[.string ⟨#[]⟩, .int .i64 0, .int .i64 0, .string ⟨#[]⟩, .slice none 0 0, .slice none 0 0]), 6, 96) := by kernel_rfl
end Go.Proofs.Ytdnmgpidfjkiaaa
