/-
  The page's example a{{"b"}}c: its nodes (muslinref20's parser at deep 0).
-/
import Derived.Test.YtnepogddjinpoaaGreatDoorExParse
namespace Go.Proofs.YtnepogddjinpoaaGreatDoor
open Go.RowKit
set_option linter.unusedVariables false
set_option linter.unusedSimpArgs false

theorem info_node : (Tryz.prog.info? 61).map (fun i => (i.zero, i.size, i.bytes)) = some (some (.agg #[.int .i64 0, .string ⟨#[]⟩, .string ⟨#[]⟩, .slice none 0 0, .slice none 0 0, .slice none 0 0, .int .i64 0, .int .i64 0, .int .i64 0]), 9, 136) := by kernel_rfl
theorem grown_below {w w' : World} {row : Option Nat} (hs : w.heap.size ≤ w'.heap.size) (hb : ∀ j, j < w.heap.size → some j ≠ row → w'.heap[j]? = w.heap[j]?) (h1 : w'.os = w.os) (h2 : w'.tape = w.tape) (h3 : w'.output = w.output) : w.grownBy w' row :=
  { os := h1, tape := h2, output := h3, size := hs, block := hb }
/-- The example's nodes. -/
def exNodes (vp : Value) : List Value :=
  [.int .i64 1, .string ⟨#[97]⟩, .string ⟨#[]⟩, .slice none 0 0, .slice none 0 0, .slice none 0 0, .int .i64 0, .int .i64 0, .int .i64 0,
   .int .i64 2, .string ⟨#[]⟩, .string ⟨#[]⟩, vp, .slice none 0 0, .slice none 0 0, .int .i64 1, .int .i64 0, .int .i64 0,
   .int .i64 1, .string ⟨#[99]⟩, .string ⟨#[]⟩, .slice none 0 0, .slice none 0 0, .slice none 0 0, .int .i64 8, .int .i64 0, .int .i64 0]
theorem own_setE {w : World} {base n size : Nat} {e : TypeId} {v : Value} {xs : List Value} (h : w.ownsRow base e size v n xs) {p : Addr} (hp : p.block < base) (u : Value) : (w.setCell p u).ownsRow base e size v n xs := by
  refine h.kept (row := some p.block) ⟨rfl, rfl, rfl, by simp, fun k hk hne => Below.heap_setCell w p _ k (fun e => hne (by rw [e]))⟩ (.inr ?_)
  intro e
  have := (h.lt _ e).1
  omega
theorem own_keepE {w w' : World} {base n size : Nat} {e : TypeId} {v : Value} {xs : List Value} (h : w.ownsRow base e size v n xs) (hb : Below w.heap.size w w') : w'.ownsRow base e size v n xs :=
  h.kept (row := none) ⟨hb.os, hb.tape, hb.output, hb.size, fun k hk _ => hb.block k hk⟩ (by cases h : v.ownBlock <;> simp)
/-- The parser's state between two steps: its block b, the result's block, the items, the row of nodes. -/
structure NS (w : World) (b g : Nat) (v2 v3 v4 v5 : Value) (wi : World) (L : Value) (n : Int) (out : Value) (k : Nat) (xs : List Value) : Prop where
  blt : b < w.heap.size
  glt : g < w.heap.size
  gb : g ≠ b
  blk : Blk wi b 104 #[L, .int .i64 n, v2, v3, v4, v5]
  res : Blk wi w.heap.size 107 #[.slice none 0 0, .string ⟨#[]⟩, .int .i64 0]
  items : AtB wi g exItems
  gro : w.grownBy wi (some b)
  own : wi.ownsRow (w.heap.size + 1) 61 9 out k xs
theorem NS.below {w : World} {b g : Nat} {v2 v3 v4 v5 : Value} {wi : World} {L : Value} {n : Int} {out : Value} {k : Nat} {xs : List Value} (h : NS w b g v2 v3 v4 v5 wi L n out k xs) {w' : World} (hb : Below wi.heap.size wi w') : NS w b g v2 v3 v4 v5 w' L n out k xs :=
  { blt := h.blt, glt := h.glt, gb := h.gb, blk := h.blk.below hb h.blk.lt, res := h.res.below hb h.res.lt, items := h.items.on hb,
    gro := { os := hb.os.trans h.gro.os, tape := hb.tape.trans h.gro.tape, output := hb.output.trans h.gro.output, size := Nat.le_trans h.gro.size hb.size, block := fun j h1 h2 => (hb.block j (Nat.lt_of_lt_of_le h1 h.gro.size)).trans (h.gro.block j h1 h2) },
    own := own_keepE h.own hb }
theorem NS.alloc {w : World} {b g : Nat} {v2 v3 v4 v5 : Value} {wi : World} {L : Value} {n : Int} {out : Value} {k : Nat} {xs : List Value} (h : NS w b g v2 v3 v4 v5 wi L n out k xs) (o : Obj) : NS w b g v2 v3 v4 v5 (wi.alloc o) L n out k xs := h.below ((Below.refl _ _).alloc (Nat.le_refl _) o)
theorem NS.gset {w : World} {b g : Nat} {v2 v3 v4 v5 : Value} {wi : World} {L : Value} {n : Int} {out : Value} {k : Nat} {xs : List Value} (h : NS w b g v2 v3 v4 v5 wi L n out k xs) (i : Nat) (u : Value) : w.grownBy (wi.setCell ⟨b, i, none⟩ u) (some b) :=
  { os := h.gro.os, tape := h.gro.tape, output := h.gro.output, size := by have := h.gro.size; simpa using this, block := fun j h1 h2 => (Below.heap_setCell wi ⟨b, i, none⟩ u j (by intro e; exact h2 (by rw [e]))).trans (h.gro.block j h1 h2) }
theorem NS.setL {w : World} {b g : Nat} {v2 v3 v4 v5 : Value} {wi : World} {L : Value} {n : Int} {out : Value} {k : Nat} {xs : List Value} (h : NS w b g v2 v3 v4 v5 wi L n out k xs) (L' : Value) : NS w b g v2 v3 v4 v5 (wi.setCell ⟨b, 0, none⟩ L') L' n out k xs :=
  { blt := h.blt, glt := h.glt, gb := h.gb, blk := by have := h.blk.set_ 0 L'; simpa using this, res := h.res.far (p := ⟨b, 0, none⟩) (by have := h.blt; show w.heap.size ≠ b; omega) L',
    items := h.items.far (p := ⟨b, 0, none⟩) h.gb L', gro := h.gset 0 L', own := own_setE h.own (p := ⟨b, 0, none⟩) (by have := h.blt; show b < _; omega) L' }
theorem NS.setN {w : World} {b g : Nat} {v2 v3 v4 v5 : Value} {wi : World} {L : Value} {n : Int} {out : Value} {k : Nat} {xs : List Value} (h : NS w b g v2 v3 v4 v5 wi L n out k xs) (m : Int) : NS w b g v2 v3 v4 v5 (wi.setCell ⟨b, 1, none⟩ (.int .i64 m)) L m out k xs :=
  { blt := h.blt, glt := h.glt, gb := h.gb, blk := by have := h.blk.set_ 1 (.int .i64 m); simpa using this, res := h.res.far (p := ⟨b, 1, none⟩) (by have := h.blt; show w.heap.size ≠ b; omega) _,
    items := h.items.far (p := ⟨b, 1, none⟩) h.gb _, gro := h.gset 1 _, own := own_setE h.own (p := ⟨b, 1, none⟩) (by have := h.blt; show b < _; omega) _ }
theorem NS.append {w : World} {b g : Nat} {v2 v3 v4 v5 : Value} {wi : World} {L : Value} {n : Int} {out : Value} {k : Nat} {xs : List Value} (h : NS w b g v2 v3 v4 v5 wi L n out k xs) {w' : World} {out' : Value} {k' : Nat} {xs' : List Value} (hown : w'.ownsRow (w.heap.size + 1) 61 9 out' k' xs') (hg : wi.grownBy w' out.ownBlock) : NS w b g v2 v3 v4 v5 w' L n out' k' xs' := by
  have hlow : ∀ j, out.ownBlock = some j → w.heap.size + 1 ≤ j := fun j e => (h.own.lt j e).1
  have hne : ∀ j, j < w.heap.size + 1 → some j ≠ out.ownBlock := fun j hj e => by have := hlow j e.symm; omega
  have hb := h.blt; have hgl := h.glt
  refine { blt := h.blt, glt := h.glt, gb := h.gb, blk := h.blk.grown hg (hne b (by omega)), res := h.res.grown hg (hne _ (by omega)), items := ⟨?_, fun i v hv => ?_⟩, gro := ?_, own := hown }
  · have := h.items.lt; have := hg.size; omega
  · exact (World.cell?_of_block (hg.block g h.items.lt (hne g (by omega)))).trans (h.items.cell i v hv)
  · exact { os := hg.os.trans h.gro.os, tape := hg.tape.trans h.gro.tape, output := hg.output.trans h.gro.output, size := Nat.le_trans h.gro.size hg.size, block := fun j h1 h2 => (hg.block j (Nat.lt_of_lt_of_le h1 h.gro.size) (hne j (by omega))).trans (h.gro.block j h1 h2) }
theorem NS.setFar {w : World} {b g : Nat} {v2 v3 v4 v5 : Value} {wi : World} {L : Value} {n : Int} {out : Value} {k : Nat} {xs : List Value} (h : NS w b g v2 v3 v4 v5 wi L n out k xs) {q i : Nat} (h1 : b ≠ q) (h2 : w.heap.size < q) (h3 : g ≠ q) (h4 : True) (h5 : out.ownBlock ≠ some q) (u : Value) : NS w b g v2 v3 v4 v5 (wi.setCell ⟨q, i, none⟩ u) L n out k xs :=
  { blt := h.blt, glt := h.glt, gb := h.gb, blk := h.blk.far (p := ⟨q, i, none⟩) h1 u, res := h.res.far (p := ⟨q, i, none⟩) (by show w.heap.size ≠ q; omega) u,
    items := h.items.far (p := ⟨q, i, none⟩) h3 u,
    gro := { os := h.gro.os, tape := h.gro.tape, output := h.gro.output, size := by have := h.gro.size; simpa using this, block := fun j e1 e2 => (Below.heap_setCell wi ⟨q, i, none⟩ u j (by show j ≠ q; omega)).trans (h.gro.block j e1 e2) },
    own := by
      refine h.own.kept (row := some q) ⟨rfl, rfl, rfl, by simp, fun k hk hne => Below.heap_setCell wi ⟨q, i, none⟩ u k (fun e => hne (by rw [e]))⟩ (.inr ?_)
      intro e; exact h5 e }
theorem NS.set9 {w : World} {b g : Nat} {v2 v3 v4 v5 : Value} {wi : World} {L : Value} {n : Int} {out : Value} {k : Nat} {xs : List Value} (h : NS w b g v2 v3 v4 v5 wi L n out k xs) {q : Nat} (h1 : b ≠ q) (h2 : w.heap.size < q) (h3 : g ≠ q) (h5 : out.ownBlock ≠ some q) (u0 u1 u2 u3 u4 u5 u6 u7 u8 : Value) : NS w b g v2 v3 v4 v5 (set9 wi q u0 u1 u2 u3 u4 u5 u6 u7 u8) L n out k xs :=
  have h4 : True := trivial
  (((((((((h.setFar (i := 0) h1 h2 h3 h4 h5 u0).setFar (i := 1) h1 h2 h3 h4 h5 u1).setFar (i := 2) h1 h2 h3 h4 h5 u2).setFar (i := 3) h1 h2 h3 h4 h5 u3).setFar (i := 4) h1 h2 h3 h4 h5 u4).setFar (i := 5) h1 h2 h3 h4 h5 u5).setFar (i := 6) h1 h2 h3 h4 h5 u6).setFar (i := 7) h1 h2 h3 h4 h5 u7).setFar (i := 8) h1 h2 h3 h4 h5 u8)
end Go.Proofs.YtnepogddjinpoaaGreatDoor
