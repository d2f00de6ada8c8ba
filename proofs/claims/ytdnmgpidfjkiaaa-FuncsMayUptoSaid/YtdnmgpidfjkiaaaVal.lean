/-
  Values: trees of kinds, numbers, texts, lists and keys; where they lie.
-/
import Derived.Test.YtdnmgpidfjkiaaaMem
import Derived.OwnWalk
import Derived.Deep.OwnRows
namespace Go.Proofs.Ytdnmgpidfjkiaaa
open Go.RowKit
set_option linter.unusedVariables false

/-- A value's own parts: kind, number, text, list, keys. -/
structure VN (α : Type) where
  k : Int
  i : Int
  s : List UInt8
  l : List α
  ks : List (List UInt8)
/-- Values up to a depth. -/
def VT : Nat → Type
  | 0 => Empty
  | n + 1 => VN (VT n)
/-- A value that is written out. -/
abbrev valV (k i : Int) (s : ByteArray) (a : Option Addr) (n c : Nat) (a2 : Option Addr) (n2 c2 : Nat) : Value :=
  .agg #[.int .i64 k, .int .i64 i, .string s, .slice a n c, .slice a2 n2 c2]
/-- Texts that lie one behind the other, in a block that U lets by. -/
def StrsAt (U : World → Nat → Prop) (w : World) (a : Option Addr) (ks : List (List UInt8)) : Prop :=
  ∀ j x, ks[j]? = some x → ∃ b off, a = some ⟨b, off, none⟩ ∧ b < w.heap.size ∧ U w b ∧ w.cell? ⟨b, off + j, none⟩ = some (.string ⟨x.toArray⟩)
/-- Five cells of a value in a list. -/
structure Five (w : World) (b o : Nat) (k i : Int) (s : ByteArray) (a : Option Addr) (n c : Nat) (a2 : Option Addr) (n2 c2 : Nat) : Prop where
  e0 : w.cell? ⟨b, o, none⟩ = some (.int .i64 k)
  e1 : w.cell? ⟨b, o + 1, none⟩ = some (.int .i64 i)
  e2 : w.cell? ⟨b, o + 2, none⟩ = some (.string s)
  e3 : w.cell? ⟨b, o + 3, none⟩ = some (.slice a n c)
  e4 : w.cell? ⟨b, o + 4, none⟩ = some (.slice a2 n2 c2)
/-- Values that lie one behind the other; R says what they are. -/
def ValsAt {α : Type} (U : World → Nat → Prop) (w : World) (R : Value → α → Prop) (a : Option Addr) (l : List α) : Prop :=
  ∀ j x, l[j]? = some x → ∃ b off, a = some ⟨b, off, none⟩ ∧ b < w.heap.size ∧ U w b ∧ ∃ k i s a1 n1 c1 a2 n2 c2, Five w b (off + j * 5) k i s a1 n1 c1 a2 n2 c2 ∧ R (valV k i s a1 n1 c1 a2 n2 c2) x
/-- A value in a world: its lists lie in blocks that U lets by. -/
def IsV (U : World → Nat → Prop) (w : World) : (n : Nat) → Value → VT n → Prop
  | 0, _, _ => False
  | n + 1, v, d => ∃ a c a2 c2, v = valV (VN.k d) (VN.i d) ⟨(VN.s d).toArray⟩ a (VN.l d).length c a2 (VN.ks d).length c2 ∧ StrsAt U w a2 (VN.ks d) ∧ ValsAt U w (IsV U w n) a (VN.l d)
def anyB : World → Nat → Prop := fun _ _ => True
/-- A block from N on, of plain cells. -/
def freshB (N : Nat) : World → Nat → Prop := fun w b => N ≤ b ∧ ∃ cs t, w.heap[b]? = some (.cells cs t)
theorem IsV.parts {U : World → Nat → Prop} {w : World} {n : Nat} {v : Value} {d : VN (VT n)} (h : IsV U w (n + 1) v d) : ∃ a c a2 c2, v = valV d.k d.i ⟨d.s.toArray⟩ a d.l.length c a2 d.ks.length c2 ∧ StrsAt U w a2 d.ks ∧ ValsAt U w (IsV U w n) a d.l := h
theorem IsV.made {U : World → Nat → Prop} {w : World} {n : Nat} {d : VN (VT n)} {a a2 : Option Addr} {c c2 : Nat} (h1 : StrsAt U w a2 d.ks) (h2 : ValsAt U w (IsV U w n) a d.l) : IsV U w (n + 1) (valV d.k d.i ⟨d.s.toArray⟩ a d.l.length c a2 d.ks.length c2) d := ⟨a, c, a2, c2, rfl, h1, h2⟩
theorem cellB {w w' : World} {b : Nat} (h : w'.heap[b]? = w.heap[b]?) (o : Nat) : w'.cell? ⟨b, o, none⟩ = w.cell? ⟨b, o, none⟩ := World.cell?_of_block h
/-- What stays where the blocks stay. -/
structure Stays (U U' : World → Nat → Prop) (w w' : World) : Prop where
  size : w.heap.size ≤ w'.heap.size
  block : ∀ b, b < w.heap.size → U w b → w'.heap[b]? = w.heap[b]? ∧ U' w' b
theorem StrsAt.on {U U' : World → Nat → Prop} {w w' : World} {a : Option Addr} {ks : List (List UInt8)} (h : StrsAt U w a ks) (hs : Stays U U' w w') : StrsAt U' w' a ks := by
  intro j x hx
  obtain ⟨b, off, ha, hb, hu, hc⟩ := h j x hx
  obtain ⟨h1, h2⟩ := hs.block b hb hu
  exact ⟨b, off, ha, Nat.lt_of_lt_of_le hb hs.size, h2, (cellB h1 _).trans hc⟩
theorem Five.on {w w' : World} {b o : Nat} {k i : Int} {s : ByteArray} {a : Option Addr} {n c : Nat} {a2 : Option Addr} {n2 c2 : Nat} (h : Five w b o k i s a n c a2 n2 c2) (hb : w'.heap[b]? = w.heap[b]?) : Five w' b o k i s a n c a2 n2 c2 :=
  ⟨(cellB hb _).trans h.e0, (cellB hb _).trans h.e1, (cellB hb _).trans h.e2, (cellB hb _).trans h.e3, (cellB hb _).trans h.e4⟩
theorem ValsAt.on {α : Type} {U U' : World → Nat → Prop} {w w' : World} {R R' : Value → α → Prop} {a : Option Addr} {l : List α} (h : ValsAt U w R a l) (hs : Stays U U' w w') (hR : ∀ v x, R v x → R' v x) : ValsAt U' w' R' a l := by
  intro j x hx
  obtain ⟨b, off, ha, hb, hu, k, i, s, a1, n1, c1, a2, n2, c2, h5, hr⟩ := h j x hx
  obtain ⟨h1, h2⟩ := hs.block b hb hu
  exact ⟨b, off, ha, Nat.lt_of_lt_of_le hb hs.size, h2, k, i, s, a1, n1, c1, a2, n2, c2, h5.on h1, hR _ _ hr⟩
theorem IsV.on {U U' : World → Nat → Prop} {w w' : World} (hs : Stays U U' w w') : ∀ (n : Nat) (v : Value) (d : VT n), IsV U w n v d → IsV U' w' n v d := by
  intro n
  induction n with
  | zero => intro v d h; exact h.elim
  | succ n ih =>
    intro v d h
    obtain ⟨a, c, a2, c2, hv, h1, h2⟩ := h
    exact ⟨a, c, a2, c2, hv, h1.on hs, h2.on hs (ih)⟩
theorem Stays.of_below {U : World → Nat → Prop} {w w' : World} (hb : Below w.heap.size w w') (hU : ∀ b, b < w.heap.size → U w b → U w' b) : Stays U U w w' :=
  ⟨hb.size, fun b h1 h2 => ⟨hb.block b h1, hU b h1 h2⟩⟩
theorem stays_any {w w' : World} (hb : Below w.heap.size w w') : Stays anyB anyB w w' := Stays.of_below hb fun _ _ _ => trivial
theorem stays_fresh {w w' : World} {N : Nat} (hb : Below w.heap.size w w') : Stays (freshB N) (freshB N) w w' :=
  Stays.of_below hb fun b h1 ⟨h2, cs, t, h3⟩ => ⟨h2, cs, t, (hb.block b h1).trans h3⟩
theorem fresh_any {N : Nat} {w : World} {n : Nat} {v : Value} {d : VT n} (h : IsV (freshB N) w n v d) : IsV anyB w n v d :=
  IsV.on (w := w) (w' := w) ⟨Nat.le_refl _, fun b _ _ => ⟨rfl, trivial⟩⟩ n v d h
theorem fresh_from {N M : Nat} (hNM : N ≤ M) {w : World} {n : Nat} {v : Value} {d : VT n} (h : IsV (freshB M) w n v d) : IsV (freshB N) w n v d :=
  IsV.on (w := w) (w' := w) ⟨Nat.le_refl _, fun b _ ⟨h1, h2⟩ => ⟨rfl, Nat.le_trans hNM h1, h2⟩⟩ n v d h
/-- No list, no text is longer than the bound. -/
def SmallV : (n : Nat) → VT n → Prop
  | 0, _ => True
  | n + 1, d => (VN.s d).length ≤ 140737488351232 ∧ (VN.l d).length * 80 ≤ 140737488351232 ∧ (VN.ks d).length * 16 ≤ 140737488351232 ∧ (∀ x ∈ VN.ks d, x.length ≤ 140737488351232) ∧ ∀ x ∈ VN.l d, SmallV n x
/-- The same value? -/
def eqV : (n : Nat) → VT n → VT n → Bool
  | 0, _, _ => true
  | n + 1, d, e => decide (VN.k d = VN.k e) && decide (VN.i d = VN.i e) && (VN.s d == VN.s e) && ((VN.l d).length == (VN.l e).length) && (VN.ks d == VN.ks e) && ((VN.l d).zip (VN.l e)).all fun p => eqV n p.1 p.2
theorem eqV_refl : ∀ (n : Nat) (d : VT n), eqV n d d = true := by
  intro n
  induction n with
  | zero => intro d; rfl
  | succ n ih =>
    intro d
    show (decide (VN.k d = VN.k d) && decide (VN.i d = VN.i d) && (VN.s d == VN.s d) && ((VN.l d).length == (VN.l d).length) && (VN.ks d == VN.ks d) && ((VN.l d).zip (VN.l d)).all fun p => eqV n p.1 p.2) = true
    have : (((VN.l d).zip (VN.l d)).all fun p => eqV n p.1 p.2) = true := by
      rw [List.all_eq_true]
      intro p hp
      obtain ⟨j, hj, e⟩ := List.getElem_of_mem hp
      rw [List.getElem_zip] at e
      subst e
      exact ih _
    simp [this]
end Go.Proofs.Ytdnmgpidfjkiaaa
