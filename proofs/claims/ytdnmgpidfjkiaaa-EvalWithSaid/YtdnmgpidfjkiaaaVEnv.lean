/-
  Environments: a root, a dot, named values; the law's Of.
-/
import Derived.Test.YtdnmgpidfjkiaaaVName
namespace Go.Proofs.Ytdnmgpidfjkiaaa
open Go.RowKit
set_option linter.unusedVariables false
set_option linter.unusedSimpArgs false

/-- Eleven stores in a box. -/
abbrev set11 (w : World) (b : Nat) (v0 v1 v2 v3 v4 v5 v6 v7 v8 v9 v10 : Value) : World := ((((((((((w.setCell ⟨b, 0, none⟩ v0).setCell ⟨b, 1, none⟩ v1).setCell ⟨b, 2, none⟩ v2).setCell ⟨b, 3, none⟩ v3).setCell ⟨b, 4, none⟩ v4).setCell ⟨b, 5, none⟩ v5).setCell ⟨b, 6, none⟩ v6).setCell ⟨b, 7, none⟩ v7).setCell ⟨b, 8, none⟩ v8).setCell ⟨b, 9, none⟩ v9).setCell ⟨b, 10, none⟩ v10
theorem set11_heap (w : World) (b : Nat) (v0 v1 v2 v3 v4 v5 v6 v7 v8 v9 v10 : Value) (j : Nat) (h : j ≠ b) : (set11 w b v0 v1 v2 v3 v4 v5 v6 v7 v8 v9 v10).heap[j]? = w.heap[j]? := by
  unfold set11
  rw [Below.heap_setCell _ _ _ j h, Below.heap_setCell _ _ _ j h, Below.heap_setCell _ _ _ j h, Below.heap_setCell _ _ _ j h, Below.heap_setCell _ _ _ j h, Below.heap_setCell _ _ _ j h, Below.heap_setCell _ _ _ j h, Below.heap_setCell _ _ _ j h, Below.heap_setCell _ _ _ j h, Below.heap_setCell _ _ _ j h, Below.heap_setCell _ _ _ j h]
theorem set11_size (w : World) (b : Nat) (v0 v1 v2 v3 v4 v5 v6 v7 v8 v9 v10 : Value) : (set11 w b v0 v1 v2 v3 v4 v5 v6 v7 v8 v9 v10).heap.size = w.heap.size := by simp [set11]
theorem set11_below {B : Nat} {a w : World} (hb : Below B a w) {b : Nat} (h : B ≤ b) (v0 v1 v2 v3 v4 v5 v6 v7 v8 v9 v10 : Value) : Below B a (set11 w b v0 v1 v2 v3 v4 v5 v6 v7 v8 v9 v10) := (((((((((((hb.setCell (p := ⟨b, 0, none⟩) h v0).setCell (p := ⟨b, 1, none⟩) h v1).setCell (p := ⟨b, 2, none⟩) h v2).setCell (p := ⟨b, 3, none⟩) h v3).setCell (p := ⟨b, 4, none⟩) h v4).setCell (p := ⟨b, 5, none⟩) h v5).setCell (p := ⟨b, 6, none⟩) h v6).setCell (p := ⟨b, 7, none⟩) h v7).setCell (p := ⟨b, 8, none⟩) h v8).setCell (p := ⟨b, 9, none⟩) h v9).setCell (p := ⟨b, 10, none⟩) h v10)
theorem set11_blk {w : World} {b : Nat} {t : TypeId} {u0 u1 u2 u3 u4 u5 u6 u7 u8 u9 u10 : Value} (h : Blk w b t #[u0, u1, u2, u3, u4, u5, u6, u7, u8, u9, u10]) (v0 v1 v2 v3 v4 v5 v6 v7 v8 v9 v10 : Value) : Blk (set11 w b v0 v1 v2 v3 v4 v5 v6 v7 v8 v9 v10) b t #[v0, v1, v2, v3, v4, v5, v6, v7, v8, v9, v10] := by
  have := (((((((((((h.set_ 0 v0).set_ 1 v1).set_ 2 v2).set_ 3 v3).set_ 4 v4).set_ 5 v5).set_ 6 v6).set_ 7 v7).set_ 8 v8).set_ 9 v9).set_ 10 v10)
  simpa using this
abbrev envV (r d : VF) (a : Option Addr) (n c : Nat) : Array Value := #[.int .i64 r.k, .int .i64 r.i, .string r.s, .slice r.a r.n r.c, .slice r.a2 r.n2 r.c2, .int .i64 d.k, .int .i64 d.i, .string d.s, .slice d.a d.n d.c, .slice d.a2 d.n2 d.c2, .slice a n c]
abbrev zeroEnv : Array Value := #[.int .i64 0, .int .i64 0, .string ⟨#[]⟩, .slice none 0 0, .slice none 0 0, .int .i64 0, .int .i64 0, .string ⟨#[]⟩, .slice none 0 0, .slice none 0 0, .slice none 0 0]
/-- An environment in a world. -/
structure IsE (U : World → Nat → Prop) (w : World) (m : Nat) (r d : VF) (a : Option Addr) (root dot : VT m) (vars : List (List UInt8 × VT m)) : Prop where
  root : IsV U w m r.val root
  dot : IsV U w m d.val dot
  vars : NamesAt U w m a vars
theorem IsE.on {U U' : World → Nat → Prop} {w w' : World} {m : Nat} {r d : VF} {a : Option Addr} {root dot : VT m} {vars : List (List UInt8 × VT m)} (h : IsE U w m r d a root dot vars) (hs : Stays U U' w w') : IsE U' w' m r d a root dot vars :=
  ⟨IsV.on hs m _ _ h.root, IsV.on hs m _ _ h.dot, h.vars.on hs⟩
structure SmallE (m : Nat) (root dot : VT m) (vars : List (List UInt8 × VT m)) : Prop where
  root : SmallV m root
  dot : SmallV m dot
  len : vars.length * 96 ≤ 140737488351232
  each : ∀ x ∈ vars, SmallV m x.2
def betweenB (lo hi P : Nat) : World → Nat → Prop := fun w b => freshB lo w b ∧ b < hi ∧ b ≠ P
theorem stays_between {lo hi P : Nat} {w w' : World} (hs : w.heap.size ≤ w'.heap.size) (h : ∀ b, b < w.heap.size → lo ≤ b → b < hi → b ≠ P → w'.heap[b]? = w.heap[b]?) : Stays (betweenB lo hi P) (betweenB lo hi P) w w' :=
  ⟨hs, fun b h1 ⟨⟨h2, cs, t, h3⟩, h4, h5⟩ => ⟨h b h1 h2 h4 h5, ⟨h2, cs, t, (h b h1 h2 h4 h5).trans h3⟩, h4, h5⟩⟩
/-- Of's boxes, and what is built. -/
structure OfI (w wr : World) (m P base : Nat) (bx : Array Value) (r d : VF) (root dot : VT m) (A0 : Option Addr) (cp : Nat) (es : List NF) (xs : List (List UInt8 × VT m)) : Prop where
  bel : Below w.heap.size w wr
  p : w.heap.size + 2 ≤ P
  pb : P < base
  bz : base ≤ wr.heap.size
  b1 : Blk wr w.heap.size 28 bx
  b2 : Blk wr (w.heap.size + 1) 32 zeroEnv
  b3 : Blk wr P 32 (envV r d A0 xs.length cp)
  root : IsV (betweenB (w.heap.size + 2) base P) wr m r.val root
  dot : IsV (betweenB (w.heap.size + 2) base P) wr m d.val dot
  row : RowN m base wr (.slice A0 xs.length cp) es xs
theorem OfI.step {w wr wP wA w4 : World} {m P base M g cap4 : Nat} {bx : Array Value} {r d : VF} {root dot : VT m} {A0 : Option Addr} {cp : Nat} {es : List NF} {xs : List (List UInt8 × VT m)} {e : NF} {y : List UInt8 × VT m}
    (h : OfI w wr m P base bx r d root dot A0 cp es xs) (hP : Below wr.heap.size wr wP) (hV : IsN (freshB M) wP m e y) (hM : wr.heap.size ≤ M) (hA : Below wP.heap.size wP wA) (hg : wA.grownBy w4 (Value.slice A0 xs.length cp).ownBlock)
    (hown : w4.ownsRow base 58 6 (.slice (some ⟨g, 0, none⟩) (es.length + 1) cap4) (es.length + 1) (es.flatMap NF.cells ++ e.cells)) (hat : (Value.slice A0 xs.length cp).ownBlock = some g ∨ g = wA.heap.size) :
    OfI w (w4.setCell ⟨P, 10, none⟩ (.slice (some ⟨g, 0, none⟩) (es.length + 1) cap4)) m P base bx r d root dot (some ⟨g, 0, none⟩) cap4 (es ++ [e]) (xs ++ [y]) := by
  have hPA := hP.trans (hA.mono hP.size)
  have l3 := h.b3.lt
  have hp := h.p; have hpb := h.pb; have hbz := h.bz
  have hne : ∀ b, b < base → some b ≠ (Value.slice A0 xs.length cp).ownBlock := fun b hb e => by have := (h.row.own.lt b e.symm).1; omega
  have hkeep : ∀ b, b < wr.heap.size → b < base → b ≠ P → (w4.setCell ⟨P, 10, none⟩ (.slice (some ⟨g, 0, none⟩) (es.length + 1) cap4)).heap[b]? = wr.heap[b]? := fun b h1 h2 h3 =>
    (Below.heap_setCell w4 ⟨P, 10, none⟩ _ b h3).trans ((hg.block b (Nat.lt_of_lt_of_le h1 hPA.size) (hne b h2)).trans (hPA.block b h1))
  have h1 := (h.b1.below hPA h.b1.lt).grown hg (hne _ (by omega))
  have h2 := (h.b2.below hPA h.b2.lt).grown hg (hne _ (by omega))
  have h3 := ((h.b3.below hPA h.b3.lt).grown hg (hne _ (by omega))).set_ 10 (.slice (some ⟨g, 0, none⟩) (es.length + 1) cap4)
  have hrow := (h.row.below hP).snoc hV (fun k hk => Nat.lt_of_lt_of_le (h.row.own.lt k hk).2 hM) (by omega) hA hg hown hat
  have hbel : Below w.heap.size w w4 := (h.bel.trans (hPA.mono h.bel.size)).grown hg (by have := hPA.size; omega) (fun b hb => by have := (h.row.own.lt b hb).1; omega)
  have hsz : wr.heap.size ≤ (w4.setCell ⟨P, 10, none⟩ (.slice (some ⟨g, 0, none⟩) (es.length + 1) cap4)).heap.size := by simp; exact Nat.le_trans hPA.size hg.size
  have hst : Stays (betweenB (w.heap.size + 2) base P) (betweenB (w.heap.size + 2) base P) wr (w4.setCell ⟨P, 10, none⟩ (.slice (some ⟨g, 0, none⟩) (es.length + 1) cap4)) := stays_between hsz fun b q1 q2 q3 q4 => hkeep b q1 q3 q4
  have hl : (xs ++ [y]).length = es.length + 1 := by simp [h.row.len]
  refine ⟨hbel.setCell (p := ⟨P, 10, none⟩) (by simp; omega) _, hp, hpb, by omega, h1.far (p := ⟨P, 10, none⟩) (by simp; omega) _, h2.far (p := ⟨P, 10, none⟩) (by simp; omega) _, ?_, IsV.on hst m _ _ h.root, IsV.on hst m _ _ h.dot, ?_⟩
  · rw [hl]
    simp at h3
    exact h3
  · rw [hl]
    exact hrow.set_ (p := ⟨P, 10, none⟩) (by simp; omega) _
theorem OfI.done {w wr : World} {m P base : Nat} {bx : Array Value} {r d : VF} {root dot : VT m} {A0 : Option Addr} {cp : Nat} {es : List NF} {xs : List (List UInt8 × VT m)} (h : OfI w wr m P base bx r d root dot A0 cp es xs) (v0 v1 v2 v3 v4 v5 v6 v7 v8 v9 v10 : Value) :
    IsE (freshB w.heap.size) (set11 wr (w.heap.size + 1) v0 v1 v2 v3 v4 v5 v6 v7 v8 v9 v10) m r d A0 root dot xs ∧ Below w.heap.size w (set11 wr (w.heap.size + 1) v0 v1 v2 v3 v4 v5 v6 v7 v8 v9 v10) ∧ Blk (set11 wr (w.heap.size + 1) v0 v1 v2 v3 v4 v5 v6 v7 v8 v9 v10) (w.heap.size + 1) 32 #[v0, v1, v2, v3, v4, v5, v6, v7, v8, v9, v10] := by
  have hp := h.p; have hpb := h.pb
  refine ⟨?_, set11_below h.bel (by omega) v0 v1 v2 v3 v4 v5 v6 v7 v8 v9 v10, set11_blk h.b2 v0 v1 v2 v3 v4 v5 v6 v7 v8 v9 v10⟩
  have hz := set11_size wr (w.heap.size + 1) v0 v1 v2 v3 v4 v5 v6 v7 v8 v9 v10
  have hh := set11_heap wr (w.heap.size + 1) v0 v1 v2 v3 v4 v5 v6 v7 v8 v9 v10
  generalize set11 wr (w.heap.size + 1) v0 v1 v2 v3 v4 v5 v6 v7 v8 v9 v10 = w5 at hz hh ⊢
  have hst : Stays (freshB (w.heap.size + 2)) (freshB w.heap.size) wr w5 := by
    refine ⟨by omega, ?_⟩
    rintro b hb ⟨h1, cs, t, h2⟩
    have e := hh b (by omega)
    exact ⟨e, by omega, cs, t, e.trans h2⟩
  have hs1 : Stays (betweenB (w.heap.size + 2) base P) (freshB (w.heap.size + 2)) wr wr := ⟨Nat.le_refl _, fun b _ hu => ⟨rfl, hu.1⟩⟩
  exact ⟨IsV.on hst m _ _ (IsV.on hs1 m _ _ h.root), IsV.on hst m _ _ (IsV.on hs1 m _ _ h.dot), (h.row.names (N := w.heap.size + 2) rfl (by omega)).on hst⟩
end Go.Proofs.Ytdnmgpidfjkiaaa
