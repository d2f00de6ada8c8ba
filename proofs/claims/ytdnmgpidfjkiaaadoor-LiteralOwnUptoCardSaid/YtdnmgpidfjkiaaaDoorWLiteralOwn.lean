/-
  LiteralOwn: THE WALK.
-/
import Derived.Test.YtdnmgpidfjkiaaaDoorAlive05
import Derived.Test.YtdnmgpidfjkiaaaDoorVOwn
import Derived.Test.YtdnmgpidfjkiaaaDoorVSame
import Derived.Test.YtdnmgpidfjkiaaaDoorM2
import Derived.Test.YtdnmgpidfjkiaaaDoorLaidL
namespace Go.Proofs.YtdnmgpidfjkiaaaDoor
open Go.RowKit
set_option linter.unusedVariables false
set_option linter.unusedSimpArgs false

/-- Blocks below A and from B on stay. -/
structure Mid (A B : Nat) (w w' : World) : Prop where
  os : w'.os = w.os
  tape : w'.tape = w.tape
  output : w'.output = w.output
  size : w.heap.size ≤ w'.heap.size
  block : ∀ k, k < w.heap.size → k < A ∨ B ≤ k → w'.heap[k]? = w.heap[k]?
theorem Mid.refl (A B : Nat) (w : World) : Mid A B w w := ⟨rfl, rfl, rfl, Nat.le_refl _, fun _ _ _ => rfl⟩
theorem Mid.set_ {A B : Nat} {w w' : World} (h : Mid A B w w') {p : Addr} (h1 : A ≤ p.block) (h2 : p.block < B) (v : Value) : Mid A B w (w'.setCell p v) :=
  ⟨h.os, h.tape, h.output, by simpa using h.size, fun k hk ho => (Below.heap_setCell w' p v k (by omega)).trans (h.block k hk ho)⟩
theorem Mid.below {A B : Nat} {w w' : World} (h : Mid A B w w') (hA : A ≤ w.heap.size) : Below A w w' := ⟨h.os, h.tape, h.output, h.size, fun k hk => h.block k (by omega) (.inl hk)⟩
theorem Mid.blk {A B g : Nat} {w w' : World} {t : TypeId} {cs : Array Value} (h : Mid A B w w') (hk : Blk w g t cs) (hg : B ≤ g) : Blk w' g t cs := (h.block g hk.lt (.inr hg)).trans hk
theorem Mid.stays {A B M : Nat} {w w' : World} (h : Mid A B w w') (hM : B ≤ M) : Stays (freshB M) (freshB M) w w' := by
  refine ⟨h.size, ?_⟩
  rintro b hb ⟨h1, cs, t, h2⟩
  have := h.block b hb (.inr (by omega))
  exact ⟨this, h1, cs, t, this.trans h2⟩
/-- A list whose places can be written. -/
def Open5 (w : World) (A B : Nat) (a : Option Addr) (n : Nat) : Prop := ∀ j, j < n → ∃ g off, a = some ⟨g, off, none⟩ ∧ A ≤ g ∧ g < B ∧ ∀ t, t < 5 → (∃ v, w.cell? ⟨g, off + j * 5 + t, none⟩ = some v) ∧ w.frozen? ⟨g, off + j * 5 + t, none⟩ = false
theorem open_of {α : Type} {w w' : World} {A B : Nat} {R : Value → α → Prop} {a : Option Addr} {l : List α} (h : ValsAt (freshB A) w R a l) (hB : w.heap.size ≤ B) (hb : Below w.heap.size w w') : Open5 w' A B a l.length := by
  intro j hj
  obtain ⟨g, off, ha, hg, ⟨h1, cs, t, h2⟩, k, i, s, a1, n1, c1, a2, n2, c2, h5, _⟩ := h j _ (List.getElem?_eq_getElem hj)
  have hblk := hb.block g hg
  obtain ⟨e0, e1, e2, e3, e4⟩ := h5.on hblk
  refine ⟨g, off, ha, h1, by omega, fun t ht => ⟨?_, ?_⟩⟩
  · match t, ht with
    | 0, _ => exact ⟨_, e0⟩
    | 1, _ => exact ⟨_, e1⟩
    | 2, _ => exact ⟨_, e2⟩
    | 3, _ => exact ⟨_, e3⟩
    | 4, _ => exact ⟨_, e4⟩
  · have := hblk.trans h2
    simp [World.frozen?, this]
theorem cell_setSome (w : World) (p q : Addr) (v : Value) (h : ∃ u, w.cell? q = some u) (hp : ∃ u, w.cell? p = some u) : ∃ u, (w.setCell p v).cell? q = some u := by
  by_cases e : p = q
  · subst e
    obtain ⟨u, hu⟩ := hp
    exact ⟨v, World.cell?_setCell_same w p v hu⟩
  · obtain ⟨u, hu⟩ := h
    exact ⟨u, (World.cell?_setCell_other w p q v e).trans hu⟩
theorem Open5.set_ {w : World} {A B : Nat} {a : Option Addr} {n : Nat} (h : Open5 w A B a n) {p : Addr} (hp : ∃ u, w.cell? p = some u) (v : Value) : Open5 (w.setCell p v) A B a n := by
  intro j hj
  obtain ⟨g, off, ha, h1, h2, h3⟩ := h j hj
  exact ⟨g, off, ha, h1, h2, fun t ht => ⟨cell_setSome w p _ v (h3 t ht).1 hp, by rw [World.frozen?_setCell]; exact (h3 t ht).2⟩⟩
abbrev kind77 (w : World) (g o : Nat) : World := ((((w.setCell ⟨g, o, none⟩ (.int .i64 77)).setCell ⟨g, o + 1, none⟩ (.int .i64 0)).setCell ⟨g, o + 2, none⟩ (.string ⟨#[]⟩)).setCell ⟨g, o + 3, none⟩ (.slice none 0 0)).setCell ⟨g, o + 4, none⟩ (.slice none 0 0)
theorem Open5.kind {w : World} {A B g off j : Nat} {n : Nat} (h : Open5 w A B (some ⟨g, off, none⟩) n) (hj : j < n) : Open5 (kind77 w g (off + j * 5)) A B (some ⟨g, off, none⟩) n := by
  have at_ : ∀ (w : World), Open5 w A B (some ⟨g, off, none⟩) n → ∀ t, t < 5 → ∃ u, w.cell? ⟨g, off + j * 5 + t, none⟩ = some u := by
    intro w h t ht
    obtain ⟨g', off', ha, _, _, h3⟩ := h j hj
    injection ha with ha
    injection ha with e1 e2 _
    subst e1; subst e2
    exact (h3 t ht).1
  have h0 := h.set_ (p := ⟨g, off + j * 5, none⟩) (by have := at_ w h 0 (by omega); simpa using this) (.int .i64 77)
  have h1 := h0.set_ (p := ⟨g, off + j * 5 + 1, none⟩) (at_ _ h0 1 (by omega)) (.int .i64 0)
  have h2 := h1.set_ (p := ⟨g, off + j * 5 + 2, none⟩) (at_ _ h1 2 (by omega)) (.string ⟨#[]⟩)
  have h3 := h2.set_ (p := ⟨g, off + j * 5 + 3, none⟩) (at_ _ h2 3 (by omega)) (.slice none 0 0)
  exact h3.set_ (p := ⟨g, off + j * 5 + 4, none⟩) (at_ _ h3 4 (by omega)) (.slice none 0 0)
theorem Mid.kind {A B : Nat} {w w' : World} (h : Mid A B w w') {g : Nat} (h1 : A ≤ g) (h2 : g < B) (o : Nat) : Mid A B w (kind77 w' g o) :=
  ((((h.set_ (p := ⟨g, o, none⟩) h1 h2 _).set_ (p := ⟨g, o + 1, none⟩) h1 h2 _).set_ (p := ⟨g, o + 2, none⟩) h1 h2 _).set_ (p := ⟨g, o + 3, none⟩) h1 h2 _).set_ (p := ⟨g, o + 4, none⟩) h1 h2 _
/-- Any of the two outcomes, in one: a value of any sort. -/
theorem read_both (s : List UInt8) (hs : s.length ≤ 1048576) : ∃ (n y : Int) (d : VT 17), SmallV 17 d ∧ ∀ w, Calls Tryd.prog 12 #[.string ⟨s.toArray⟩] w fun e w' => ∃ v, e = .returned (.tuple #[v, .int .i64 n, .int .i64 y]) ∧ IsV (freshB w.heap.size) w' 17 v d ∧ Below w.heap.size w w' := by
  have h := fun w => read_any s w (by omega)
  rcases hr : readR risingK s with ⟨d, t⟩ | y
  · refine ⟨s.length, 0, d, (readR_small hr hs).1, fun w => (h w).mono ?_⟩
    rintro e w' (⟨d', v, h1, rfl, h3, h4⟩ | ⟨y, h1, _⟩)
    · rw [hr] at h1; injection h1 with h5 _; subst h5; exact ⟨v, rfl, h3, h4⟩
    · rw [hr] at h1; cases h1
  · refine ⟨0, y, (⟨0, 0, [], [], []⟩ : VN (VT 16)), ⟨by decide, by decide, by decide, fun x hx => (by cases hx), fun x hx => (by cases hx)⟩, fun w => (h w).mono ?_⟩
    rintro e w' (⟨d', v, h1, _⟩ | ⟨y', h1, rfl, h4⟩)
    · rw [hr] at h1; cases h1
    · rw [hr] at h1; injection h1 with h5; subst h5
      exact ⟨_, rfl, leafV _ _ 16 0 0 [], h4⟩
theorem any_okW (M : Nat) : ∀ w w' b, Below w.heap.size w w' → b < w.heap.size → freshB M w b → freshB M w' b := fun w w' b hb h1 ⟨h2, cs, t, h3⟩ => ⟨h2, cs, t, (hb.block b h1).trans h3⟩
set_option maxHeartbeats 4000000 in
set_option maxRecDepth 100000 in
theorem literalOwn_walk (a0 : ByteArray) (s0 : a0.size ≤ 1048576) (w : World) (hT : Lib.Utf8Tabs 3 4 w) :
    Calls Tryd.prog 4 #[.string a0] w fun e w' => e = .returned (.bool true) ∧ Below w.heap.size w w' := by
  obtain ⟨s, rfl⟩ := ba_listL a0
  rw [mk_size] at s0
  have cA := hide (alive05 w hT)
  obtain ⟨n, y, d, hsm, hRd⟩ := read_both s s0
  have cR := hide hRd
  clear hT hRd
  obtain ⟨k, i, q, l, ks⟩ := d
  have hz2 : l.length * 80 ≤ 140737488351232 := hsm.2.1
  go_enter Tryd.func4, Tryd.ntmps4
  go_wp2_with fail
  refine cA.out.mono ?_
  rintro e w1 ⟨rfl, hb1⟩
  go_wp2_with fail
  refine (cR.out _).mono ?_
  rintro e w2 ⟨va, rfl, hVa, hb2⟩
  obtain ⟨aA, cA, aK, cK, rfl, _, hLa⟩ := hVa.parts
  simp only at hLa ⊢
  have hKa := Blk.new w2 26 #[.int .i64 k, .int .i64 i, .string ⟨q.toArray⟩, .slice aA l.length cA, .slice aK ks.length cK]
  have hBa := (Below.refl w2.heap.size w2).alloc (Nat.le_refl _) (.cells #[.int .i64 k, .int .i64 i, .string ⟨q.toArray⟩, .slice aA l.length cA, .slice aK ks.length cK] 26)
  obtain ⟨W2, hW2⟩ : ∃ W2, w2.alloc (.cells #[.int .i64 k, .int .i64 i, .string ⟨q.toArray⟩, .slice aA l.length cA, .slice aK ks.length cK] 26) = W2 := ⟨_, rfl⟩
  rw [hW2] at hKa hBa
  have HW2 := hide hW2
  have hla2 : w2.heap.size < W2.heap.size := hKa.lt
  clear hW2
  go_wp2_with fail
  rw [HW2.out]
  go_wp2_with fail
  refine (cR.out _).mono ?_
  rintro e w3 ⟨vb, rfl, hVb, hb3⟩
  obtain ⟨bA, dA, bK, dK, rfl, _, _⟩ := hVb.parts
  simp only
  have hKb := Blk.new w3 26 #[.int .i64 k, .int .i64 i, .string ⟨q.toArray⟩, .slice bA l.length dA, .slice bK ks.length dK]
  have hBb := (Below.refl w3.heap.size w3).alloc (Nat.le_refl _) (.cells #[.int .i64 k, .int .i64 i, .string ⟨q.toArray⟩, .slice bA l.length dA, .slice bK ks.length dK] 26)
  obtain ⟨W3, hW3⟩ : ∃ W3, w3.alloc (.cells #[.int .i64 k, .int .i64 i, .string ⟨q.toArray⟩, .slice bA l.length dA, .slice bK ks.length dK] 26) = W3 := ⟨_, rfl⟩
  rw [hW3] at hKb hBb
  have HW3 := hide hW3
  have hVb3 := IsV.on (stays_fresh hBb) 17 _ _ hVb
  have cO := hide (own_any 17 (freshB W2.heap.size) (any_okW _) _ _ W3 hVb3 hsm)
  have b0 := hKb.cell 0; have b1 := hKb.cell 1; have b2 := hKb.cell 2; have b3 := hKb.cell 3; have b4 := hKb.cell 4
  simp at b0 b1 b2 b3 b4
  have hla3 : w3.heap.size < W3.heap.size := hKb.lt
  have hs3 := hb3.size
  have HKb := hide hKb; have HKa := hide hKa
  clear hW3 hKb hKa
  go_wp2_with fail
  rw [HW3.out]
  go_wp2_with fail
  refine cO.out.mono ?_
  rintro e w4 ⟨vx, rfl, hVx, hb4⟩
  obtain ⟨xA, eA, xK, eK, rfl, _, _⟩ := hVx.parts
  simp only
  have hKx := Blk.new w4 26 #[.int .i64 k, .int .i64 i, .string ⟨q.toArray⟩, .slice xA l.length eA, .slice xK ks.length eK]
  have hBx := (Below.refl w4.heap.size w4).alloc (Nat.le_refl _) (.cells #[.int .i64 k, .int .i64 i, .string ⟨q.toArray⟩, .slice xA l.length eA, .slice xK ks.length eK] 26)
  obtain ⟨W4, hW4⟩ : ∃ W4, w4.alloc (.cells #[.int .i64 k, .int .i64 i, .string ⟨q.toArray⟩, .slice xA l.length eA, .slice xK ks.length eK] 26) = W4 := ⟨_, rfl⟩
  rw [hW4] at hKx hBx
  have HW4 := hide hW4
  have hVx4 := IsV.on (stays_fresh hBx) 17 _ _ hVx
  have hVb4 := IsV.on (stays_fresh (below_step hb4 hBx)) 17 _ _ hVb3
  have hB34 := below_step hb4 hBx
  have hB24 : Below W2.heap.size W2 W4 := below_step (below_step hb3 hBb) hB34
  have hKa4 := HKa.out.below hB24 hla2
  have hKb4 := HKb.out.below hB34 hla3
  have hOp := open_of (B := w2.heap.size) hLa (Nat.le_refl _) (below_step hBa hB24)
  have hs4 := hb4.size
  have hA1 : w1.heap.size ≤ w2.heap.size := hb2.size
  have hBz : Below w.heap.size w W4 := below_step (below_step (below_step hb1 hb2) hBa) hB24
  have HM0 := hide (Mid.refl w1.heap.size w2.heap.size W4)
  have HOp := hide hOp
  have HVx := hide hVx4; have HVb := hide hVb4; have HKa := hide hKa4; have HKb := hide hKb4; have HKx := hide hKx
  have HBz := hide hBz
  have hA1z := hb1.size
  have hW24 := hB24.size
  have hW34 := hB34.size
  have hsm2 := hide hsm
  clear hVa hLa hVb hVb3 hVx hVx4 hVb4 hBx hb4 hB34 hB24 hKa4 hKb4 hOp hW4 hb1 hb2 hb3 hBa hBb b0 b1 b2 b3 b4 hBz cO cR hsm
  go_wp2_with fail
  rw [HW4.out]
  go_wp2_with fail
  go_loopw [10] (fun iv wr => ∃ j : Nat, iv = .int .i64 (j : Int) ∧ j ≤ l.length ∧ Hid (Mid w1.heap.size w2.heap.size W4 wr) ∧ Hid (Open5 wr w1.heap.size w2.heap.size aA l.length)) (fun iv _ => l.length - (intOf iv).toNat)
  case atStart => exact ⟨0, rfl, Nat.zero_le _, HM0, HOp⟩
  case round =>
    obtain ⟨j, rfl, hjl, HM, HO⟩ := hrel
    clear HM0 HOp
    have a3 := (HM.out.blk HKa.out (Nat.le_refl _)).cell 3
    simp at a3
    by_cases hlt : j < l.length
    · obtain ⟨g, off, he, hg1, hg2, h5⟩ := HO.out j hlt
      subst he
      obtain ⟨⟨u0, e0⟩, f0⟩ := h5 0 (by omega)
      obtain ⟨⟨u1, e1⟩, f1⟩ := h5 1 (by omega)
      obtain ⟨⟨u2, e2⟩, f2⟩ := h5 2 (by omega)
      obtain ⟨⟨u3, e3⟩, f3⟩ := h5 3 (by omega)
      obtain ⟨⟨u4, e4⟩, f4⟩ := h5 4 (by omega)
      rw [Nat.add_zero] at e0 f0
      have hji : (j : Int) < (l.length : Int) := by omega
      have HM2 := hide (HM.out.kind hg1 hg2 (off + j * 5))
      have HO2 := hide (HO.out.kind hlt)
      clear h5
      go_wp2_with fail
      go_roundw
      case rel => exact ⟨j + 1, by go_num, by omega, HM2, HO2⟩
      case measure => simp [intOf]; omega
    · obtain rfl : j = l.length := by omega
      have hjf : decide ((l.length : Int) < (l.length : Int)) = false := by simp
      have kb := HM.out.blk HKb.out (by omega)
      have kx := HM.out.blk HKx.out (by omega)
      have b0 := kb.cell 0; have b1 := kb.cell 1; have b2 := kb.cell 2; have b3 := kb.cell 3; have b4 := kb.cell 4
      have x0 := kx.cell 0; have x1 := kx.cell 1; have x2 := kx.cell 2; have x3 := kx.cell 3; have x4 := kx.cell 4
      simp at b0 b1 b2 b3 b4 x0 x1 x2 x3 x4
      have cS := same_any 17 (freshB W2.heap.size) (freshB W3.heap.size) (any_okW _) (any_okW _) _ _ _ _ wr (IsV.on (HM.out.stays (by omega)) 17 _ _ HVb.out) (IsV.on (HM.out.stays (by omega)) 17 _ _ HVx.out)
      have hcS := hide ((cS hsm2.out).mono (R' := fun e w' => e = .returned (.bool true) ∧ Below wr.heap.size wr w') fun e w' hh => ⟨hh.1.trans (congrArg (fun b => Ending.returned (Value.bool b)) (eqV_refl 17 _)), hh.2⟩)
      clear cS kb kx
      go_wp2_with (go_at_call 17; refine (hcS.out).mono ?_; rintro e w5 ⟨rfl, hb5⟩)
      go_ret
      exact ⟨rfl, (HBz.out.trans (HM.out.below (by omega) |>.mono (by omega))).trans (hb5.mono (by have := HM.out.size; omega))⟩
end Go.Proofs.YtdnmgpidfjkiaaaDoor
