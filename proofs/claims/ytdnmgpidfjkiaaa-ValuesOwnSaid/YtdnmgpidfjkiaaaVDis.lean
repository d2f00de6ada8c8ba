/-
  A value in memory of its own: no two of its parts share a block.
-/
import Derived.Test.YtdnmgpidfjkiaaaVOwn
namespace Go.Proofs.Ytdnmgpidfjkiaaa
open Go.RowKit
set_option linter.unusedVariables false
set_option linter.unusedSimpArgs false

def inB (lo hi : Nat) : World → Nat → Prop := fun w b => lo ≤ b ∧ b < hi ∧ ∃ cs t, w.heap[b]? = some (.cells cs t)
/-- A value whose blocks lie from lo up to hi; its elements in parts of that, none of which meets another one, the list's own block or the keys'. -/
def IsD (w : World) : (n : Nat) → Nat → Nat → Value → VT n → Prop
  | 0, _, _, _, _ => False
  | n + 1, lo, hi, v, d => ∃ a c a2 c2, ∃ f g : Nat → Nat, v = valV (VN.k d) (VN.i d) ⟨(VN.s d).toArray⟩ a (VN.l d).length c a2 (VN.ks d).length c2 ∧ StrsAt (inB lo hi) w a2 (VN.ks d) ∧
      ∀ (j : Nat) (x : VT n), (VN.l d)[j]? = some x → ∃ b off k i s a1 n1 c1 a3 n3 c3, a = some ⟨b, off, none⟩ ∧ inB lo hi w b ∧ Five w b (off + j * 5) k i s a1 n1 c1 a3 n3 c3 ∧ IsD w n (f j) (g j) (valV k i s a1 n1 c1 a3 n3 c3) x ∧
        lo ≤ f j ∧ g j ≤ hi ∧ ¬ (f j ≤ b ∧ b < g j) ∧ (∀ i, i < j → g i ≤ f j) ∧ ∀ kb ko, VN.ks d ≠ [] → a2 = some ⟨kb, ko, none⟩ → kb ≠ b ∧ ¬ (f j ≤ kb ∧ kb < g j)
theorem IsD.parts {w : World} {n lo hi : Nat} {v : Value} {d : VN (VT n)} (h : IsD w (n + 1) lo hi v d) : ∃ a c a2 c2, ∃ f g : Nat → Nat, v = valV d.k d.i ⟨d.s.toArray⟩ a d.l.length c a2 d.ks.length c2 ∧ StrsAt (inB lo hi) w a2 d.ks ∧
      ∀ (j : Nat) (x : VT n), d.l[j]? = some x → ∃ b off k i s a1 n1 c1 a3 n3 c3, a = some ⟨b, off, none⟩ ∧ inB lo hi w b ∧ Five w b (off + j * 5) k i s a1 n1 c1 a3 n3 c3 ∧ IsD w n (f j) (g j) (valV k i s a1 n1 c1 a3 n3 c3) x ∧
        lo ≤ f j ∧ g j ≤ hi ∧ ¬ (f j ≤ b ∧ b < g j) ∧ (∀ i, i < j → g i ≤ f j) ∧ ∀ kb ko, d.ks ≠ [] → a2 = some ⟨kb, ko, none⟩ → kb ≠ b ∧ ¬ (f j ≤ kb ∧ kb < g j) := h
theorem stays_in {w w' : World} {lo hi lo2 hi2 : Nat} (hs : w.heap.size ≤ w'.heap.size) (h : ∀ b, lo ≤ b → b < hi → w'.heap[b]? = w.heap[b]?) (h1 : lo2 ≤ lo) (h2 : hi ≤ hi2) : Stays (inB lo hi) (inB lo2 hi2) w w' :=
  ⟨hs, fun b _ ⟨q1, q2, cs, t, q3⟩ => ⟨h b q1 q2, by omega, by omega, cs, t, (h b q1 q2).trans q3⟩⟩
theorem IsD.on {w w' : World} (hs : w.heap.size ≤ w'.heap.size) : ∀ (n lo hi lo2 hi2 : Nat) (v : Value) (d : VT n), lo2 ≤ lo → hi ≤ hi2 → (∀ b, lo ≤ b → b < hi → w'.heap[b]? = w.heap[b]?) → IsD w n lo hi v d → IsD w' n lo2 hi2 v d := by
  intro n
  induction n with
  | zero => intro lo hi lo2 hi2 v d _ _ _ h; exact h.elim
  | succ n ih =>
    intro lo hi lo2 hi2 v d h1 h2 hk h
    obtain ⟨a, c, a2, c2, f, g, hv, hS, hE⟩ := h
    refine ⟨a, c, a2, c2, f, g, hv, hS.on (stays_in hs hk h1 h2), ?_⟩
    intro j x hx
    obtain ⟨b, off, k, i, s, a1, n1, c1, a3, n3, c3, ha, ⟨q1, q2, cs, t, q3⟩, hF, hD, p1, p2, p3, p4, p5⟩ := hE j x hx
    exact ⟨b, off, k, i, s, a1, n1, c1, a3, n3, c3, ha, ⟨by omega, by omega, cs, t, (hk b q1 q2).trans q3⟩, hF.on (hk b q1 q2), ih _ _ _ _ _ _ (Nat.le_refl _) (Nat.le_refl _) (fun b' h3 h4 => hk b' (by omega) (by omega)) hD, by omega, by omega, p3, p4, p5⟩
theorem IsD.fresh {w : World} : ∀ (n lo hi N : Nat) (v : Value) (d : VT n), N ≤ lo → IsD w n lo hi v d → IsV (freshB N) w n v d := by
  intro n
  induction n with
  | zero => intro lo hi N v d _ h; exact h.elim
  | succ n ih =>
    intro lo hi N v d hN h
    obtain ⟨a, c, a2, c2, f, g, hv, hS, hE⟩ := h
    refine ⟨a, c, a2, c2, hv, hS.on (U := inB lo hi) ⟨Nat.le_refl _, fun b _ ⟨q1, _, cs, t, q3⟩ => ⟨rfl, by omega, cs, t, q3⟩⟩, ?_⟩
    intro j x hx
    obtain ⟨b, off, k, i, s, a1, n1, c1, a3, n3, c3, ha, ⟨q1, q2, cs, t, q3⟩, hF, hD, p1, p2, p3, p4, p5⟩ := hE j x hx
    exact ⟨b, off, ha, (Array.getElem?_eq_some_iff.1 q3).1, ⟨by omega, cs, t, q3⟩, k, i, s, a1, n1, c1, a3, n3, c3, hF, ih _ _ _ _ _ (by omega) hD⟩
theorem IsD.shape {w : World} : ∀ {n lo hi : Nat} {v : Value} {d : VT n}, IsD w n lo hi v d → ∃ e : VF, v = e.val := fun h => (IsD.fresh _ _ _ _ _ _ (Nat.le_refl _) h).shape
structure RowD (n base : Nat) (w : World) (v : Value) (es : List VF) (xs : List (VT n)) : Prop where
  own : w.ownsRow base 25 5 v es.length (es.flatMap VF.cells)
  len : es.length = xs.length
  each : ∃ f g : Nat → Nat, ∀ (r : Nat) (e : VF) (x : VT n), es[r]? = some e → xs[r]? = some x → IsD w n (f r) (g r) e.val x ∧ base ≤ f r ∧ g r ≤ w.heap.size ∧ (∀ o, v.ownBlock = some o → ¬ (f r ≤ o ∧ o < g r)) ∧ ∀ i, i < r → g i ≤ f r
theorem RowD.nil (n base : Nat) (w : World) : RowD n base w (.slice none 0 0) [] [] := ⟨World.ownsRow_nil _ _ _ _, rfl, ⟨fun _ => 0, fun _ => 0, fun r e x h => by simp at h⟩⟩
theorem RowD.set_ {n base : Nat} {w : World} {v : Value} {es : List VF} {xs : List (VT n)} (h : RowD n base w v es xs) {p : Addr} (hp : p.block < base) (u : Value) : RowD n base (w.setCell p u) v es xs := by
  obtain ⟨f, g, he⟩ := h.each
  refine ⟨own_setV h.own hp u, h.len, f, g, fun r e x h1 h2 => ?_⟩
  obtain ⟨q1, q2, q3, q4, q5⟩ := he r e x h1 h2
  exact ⟨IsD.on (by simp) n _ _ _ _ _ _ (Nat.le_refl _) (Nat.le_refl _) (fun b h3 h4 => Below.heap_setCell w p u b (by omega)) q1, q2, by simpa using q3, q4, q5⟩
theorem RowD.snoc {n base M g cap : Nat} {wr w wA w4 : World} {v : Value} {es : List VF} {xs : List (VT n)} {e : VF} {x : VT n} (h : RowD n base wr v es xs) (hP : Below wr.heap.size wr w) (hV : IsD w n M w.heap.size e.val x)
    (hM : wr.heap.size ≤ M) (hbM : base ≤ M) (hA : Below w.heap.size w wA) (hg : wA.grownBy w4 v.ownBlock)
    (hown : w4.ownsRow base 25 5 (.slice (some ⟨g, 0, none⟩) (es.length + 1) cap) (es.length + 1) (es.flatMap VF.cells ++ e.cells)) (hat : v.ownBlock = some g ∨ g = wA.heap.size) :
    RowD n base w4 (.slice (some ⟨g, 0, none⟩) (es.length + 1) cap) (es ++ [e]) (xs ++ [x]) := by
  have hsz : w.heap.size ≤ w4.heap.size := Nat.le_trans hA.size hg.size
  have hwz := hP.size
  have hAz := hA.size
  have hlt := h.own.lt
  have hkeep : ∀ b, b < w.heap.size → some b ≠ v.ownBlock → w4.heap[b]? = w.heap[b]? := fun b h1 h2 => (hg.block b (Nat.lt_of_lt_of_le h1 hA.size) h2).trans (hA.block b h1)
  obtain ⟨f, g', he⟩ := h.each
  refine ⟨by simpa using hown, by simp [h.len], fun r => if r = es.length then M else f r, fun r => if r = es.length then w.heap.size else g' r, ?_⟩
  intro r e' x' h1 h2
  have hown2 : ∀ o, (Value.slice (some ⟨g, 0, none⟩) (es.length + 1) cap).ownBlock = some o → v.ownBlock = some o ∨ wA.heap.size ≤ o := by
    intro o ho
    have : g = o := by simpa [Value.ownBlock] using ho
    subst this
    rcases hat with h3 | h3
    · exact .inl h3
    · exact .inr (by omega)
  rcases Nat.lt_or_ge r es.length with hr | hr
  · rw [List.getElem?_append_left hr] at h1
    rw [List.getElem?_append_left (by rw [← h.len]; exact hr)] at h2
    obtain ⟨q1, q2, q3, q4, q5⟩ := he r e' x' h1 h2
    have hrne : r ≠ es.length := by omega
    simp only [if_neg hrne]
    refine ⟨IsD.on (Nat.le_trans hwz hsz) n _ _ _ _ _ _ (Nat.le_refl _) (Nat.le_refl _) (fun b h3 h4 => ?_) q1, q2, by omega, ?_, ?_⟩
    · have hne : some b ≠ v.ownBlock := fun e => q4 b e.symm ⟨h3, h4⟩
      exact (hkeep b (by omega) hne).trans (hP.block b (by omega))
    · intro o ho
      rcases hown2 o ho with h3 | h3
      · exact q4 o h3
      · omega
    · intro i hi
      have : i ≠ es.length := by omega
      simp only [if_neg this]
      exact q5 i hi
  · obtain rfl : r = es.length := by
      have := (List.getElem?_eq_some_iff.1 h1).1
      simp at this; omega
    rw [List.getElem?_append_right (by omega)] at h1
    rw [List.getElem?_append_right (by rw [h.len]; omega), ← h.len] at h2
    simp at h1 h2
    subst h1; subst h2
    simp only [if_true]
    refine ⟨IsD.on hsz n _ _ _ _ _ _ (Nat.le_refl _) (Nat.le_refl _) (fun b h3 h4 => hkeep b h4 (fun e => ?_)) hV, hbM, hsz, ?_, ?_⟩
    · have := (hlt b e.symm).2; omega
    · intro o ho
      rcases hown2 o ho with h3 | h3
      · have := (hlt o h3).2; omega
      · omega
    · intro i hi
      have : i ≠ es.length := by omega
      simp only [if_neg this]
      obtain ⟨ei, hei⟩ : ∃ ei, es[i]? = some ei := ⟨_, List.getElem?_eq_getElem hi⟩
      obtain ⟨xi, hxi⟩ : ∃ xi, xs[i]? = some xi := ⟨_, List.getElem?_eq_getElem (by rw [← h.len]; exact hi)⟩
      have := (he i ei xi hei hxi).2.2.1
      omega
/-- Own's boxes, and what is built. -/
structure OwnE (w wr : World) (n base : Nat) (bx : Array Value) (k i : Int) (x : ByteArray) (A0 : Option Addr) (cp : Nat) (A5 : Option Addr) (c5 : Nat) (ks : List (List UInt8)) (es : List VF) (xs : List (VT n)) : Prop where
  bel : Below w.heap.size w wr
  bs : w.heap.size + 3 ≤ base
  b1 : Blk wr w.heap.size 25 bx
  b2 : Blk wr (w.heap.size + 1) 25 #[.int .i64 0, .int .i64 0, .string ⟨#[]⟩, .slice none 0 0, .slice none 0 0]
  b3 : Blk wr (w.heap.size + 1 + 1) 25 #[.int .i64 k, .int .i64 i, .string x, .slice A0 xs.length cp, .slice A5 ks.length c5]
  keys : StrsAt (fun w' b => freshB (w.heap.size + 3) w' b ∧ b < base) wr A5 ks
  row : RowD n base wr (.slice A0 xs.length cp) es xs
theorem OwnE.step {w wr wP wA w4 : World} {n base M g cap4 : Nat} {bx : Array Value} {k i : Int} {x : ByteArray} {A0 : Option Addr} {cp : Nat} {A5 : Option Addr} {c5 : Nat} {ks : List (List UInt8)} {es : List VF} {xs : List (VT n)} {e : VF} {y : VT n}
    (h : OwnE w wr n base bx k i x A0 cp A5 c5 ks es xs) (hP : Below wr.heap.size wr wP) (hV : IsD wP n M wP.heap.size e.val y) (hM : wr.heap.size ≤ M) (hbs : base ≤ wr.heap.size) (hA : Below wP.heap.size wP wA) (hg : wA.grownBy w4 (Value.slice A0 xs.length cp).ownBlock)
    (hown : w4.ownsRow base 25 5 (.slice (some ⟨g, 0, none⟩) (es.length + 1) cap4) (es.length + 1) (es.flatMap VF.cells ++ e.cells)) (hat : (Value.slice A0 xs.length cp).ownBlock = some g ∨ g = wA.heap.size) :
    OwnE w (w4.setCell ⟨w.heap.size + 1 + 1, 3, none⟩ (.slice (some ⟨g, 0, none⟩) (es.length + 1) cap4)) n base bx k i x (some ⟨g, 0, none⟩) cap4 A5 c5 ks (es ++ [e]) (xs ++ [y]) := by
  have hbs3 := h.bs
  have hPA := hP.trans (hA.mono hP.size)
  have l3 := h.b3.lt
  have hne : ∀ b, b < w.heap.size + 3 → some b ≠ (Value.slice A0 xs.length cp).ownBlock := fun b hb e => by have := (h.row.own.lt b e.symm).1; omega
  have h1 := (h.b1.below hPA h.b1.lt).grown hg (hne _ (by omega))
  have h2 := (h.b2.below hPA h.b2.lt).grown hg (hne _ (by omega))
  have h3 := ((h.b3.below hPA h.b3.lt).grown hg (hne _ (by omega))).set_ 3 (.slice (some ⟨g, 0, none⟩) (es.length + 1) cap4)
  have hrow := h.row.snoc hP hV hM (by omega) hA hg hown hat
  have hbel : Below w.heap.size w w4 := (h.bel.trans (hPA.mono h.bel.size)).grown hg (by have := hPA.size; omega) (fun b hb => by have := (h.row.own.lt b hb).1; omega)
  refine ⟨hbel.setCell (p := ⟨w.heap.size + 1 + 1, 3, none⟩) (by simp; omega) _, hbs3, h1.far (p := ⟨w.heap.size + 1 + 1, 3, none⟩) (by simp <;> omega) _, h2.far (p := ⟨w.heap.size + 1 + 1, 3, none⟩) (by simp <;> omega) _, ?_, ?_, ?_⟩
  · simp at h3
    have : (xs ++ [y]).length = es.length + 1 := by simp [h.row.len]
    rw [this]
    exact h3
  · refine StrsAt.on (U := fun w' b => freshB (w.heap.size + 3) w' b ∧ b < base) h.keys ⟨by simp; exact Nat.le_trans hPA.size hg.size, ?_⟩
    rintro b hb ⟨⟨h1, cs, t, h2⟩, h3⟩
    have hn : some b ≠ (Value.slice A0 xs.length cp).ownBlock := fun e => by have := (h.row.own.lt b e.symm).1; omega
    have hk : (w4.setCell ⟨w.heap.size + 1 + 1, 3, none⟩ (.slice (some ⟨g, 0, none⟩) (es.length + 1) cap4)).heap[b]? = wr.heap[b]? :=
      (Below.heap_setCell w4 ⟨w.heap.size + 1 + 1, 3, none⟩ _ b (by simp; omega)).trans ((hg.block b (Nat.lt_of_lt_of_le hb hPA.size) hn).trans (hPA.block b hb))
    exact ⟨hk, ⟨h1, cs, t, hk.trans h2⟩, h3⟩
  · have : (xs ++ [y]).length = es.length + 1 := by simp [h.row.len]
    rw [this]
    exact hrow.set_ (p := ⟨w.heap.size + 1 + 1, 3, none⟩) (by simp; omega) _
theorem OwnE.done {w wr : World} {n base : Nat} {bx : Array Value} {k i : Int} {s : List UInt8} {A0 : Option Addr} {cp : Nat} {A5 : Option Addr} {c5 : Nat} {ks : List (List UInt8)} {es : List VF} {xs : List (VT n)}
    (h : OwnE w wr n base bx k i ⟨s.toArray⟩ A0 cp A5 c5 ks es xs) (v0 v1 v2 v3 v4 : Value) :
    IsD (set5 wr (w.heap.size + 1) v0 v1 v2 v3 v4) (n + 1) w.heap.size (set5 wr (w.heap.size + 1) v0 v1 v2 v3 v4).heap.size (valV k i ⟨s.toArray⟩ A0 xs.length cp A5 ks.length c5) (⟨k, i, s, xs, ks⟩ : VN (VT n)) ∧ Below w.heap.size w (set5 wr (w.heap.size + 1) v0 v1 v2 v3 v4) ∧ Blk (set5 wr (w.heap.size + 1) v0 v1 v2 v3 v4) (w.heap.size + 1) 25 #[v0, v1, v2, v3, v4] := by
  have hbs := h.bs
  refine ⟨?_, set5_below h.bel (by omega) _ _ _ _ _, set5_blk h.b2 _ _ _ _ _⟩
  obtain ⟨f, g, he⟩ := h.row.each
  have hz := set5_size wr (w.heap.size + 1) v0 v1 v2 v3 v4
  have hh := set5_heap wr (w.heap.size + 1) v0 v1 v2 v3 v4
  generalize set5 wr (w.heap.size + 1) v0 v1 v2 v3 v4 = w5 at hz hh ⊢
  refine ⟨A0, cp, A5, c5, f, g, rfl, ?_, ?_⟩
  · refine StrsAt.on (U := fun w' b => freshB (w.heap.size + 3) w' b ∧ b < base) h.keys ⟨by omega, ?_⟩
    rintro b hb ⟨⟨h1, cs, t, h2⟩, h3⟩
    have e := hh b (by omega)
    exact ⟨e, by omega, by omega, cs, t, e.trans h2⟩
  · intro j x hx
    have hx : xs[j]? = some x := hx
    have hj := (List.getElem?_eq_some_iff.1 hx).1
    obtain ⟨e, hej⟩ : ∃ e, es[j]? = some e := ⟨_, List.getElem?_eq_getElem (by rw [h.row.len]; exact hj)⟩
    obtain ⟨q1, q2, q3, q4, q5⟩ := he j e x hej hx
    obtain ⟨b, cap, cur, hv2, hbg, hg⟩ : ∃ b cap cur, Value.slice A0 xs.length cp = .slice (some ⟨b, 0, none⟩) es.length cap ∧ base ≤ b ∧ wr.heap[b]? = some (.cells cur 25) := by
      rcases h.row.own.2 with ⟨_, h1⟩ | ⟨b, cap, cur, hv2, hb, hg, _⟩
      · rw [h.row.len] at h1; omega
      · exact ⟨b, cap, cur, hv2, hb, hg⟩
    injection hv2 with hA _ _
    subst hA
    have hlt : b < wr.heap.size := (Array.getElem?_eq_some_iff.1 hg).1
    have hbe := hh b (by omega)
    have hc : ∀ t u, e.cells[t]? = some u → wr.cell? ⟨b, 0 + j * 5 + t, none⟩ = some u := by
      intro t u hu
      have ht : t < 5 := by have := (List.getElem?_eq_some_iff.1 hu).1; rw [e.cells_len] at this; exact this
      have := h.row.own.cells (g := b) rfl (j * 5 + t) u ((flat5_get es j e t hej ht).trans hu)
      rw [zaddV] at this
      rw [Nat.zero_add]; exact this
    have hF : Five wr b (0 + j * 5) e.k e.i e.s e.a e.n e.c e.a2 e.n2 e.c2 := ⟨hc 0 _ rfl, hc 1 _ rfl, hc 2 _ rfl, hc 3 _ rfl, hc 4 _ rfl⟩
    refine ⟨b, 0, e.k, e.i, e.s, e.a, e.n, e.c, e.a2, e.n2, e.c2, rfl, ⟨by omega, by omega, cur, _, hbe.trans hg⟩, hF.on hbe, IsD.on (by omega) n _ _ _ _ _ _ (Nat.le_refl _) (Nat.le_refl _) (fun b' h3 h4 => hh b' (by omega)) q1, by omega, by omega, q4 b rfl, q5, ?_⟩
    intro kb ko hks ha
    have hks : ks ≠ [] := hks
    obtain ⟨y, hy⟩ : ∃ y, ks[0]? = some y := by
      cases ks with
      | nil => exact absurd rfl hks
      | cons y r => exact ⟨y, rfl⟩
    obtain ⟨b3, o3, ha3, _, ⟨_, hb3⟩, _⟩ := h.keys 0 y hy
    rw [ha] at ha3
    injection ha3 with ha3
    injection ha3 with h1 h2
    subst h1
    omega
set_option maxHeartbeats 4000000 in
set_option maxRecDepth 100000 in
theorem own_dis : ∀ (n : Nat) (U : World → Nat → Prop) (hU : ∀ w w' b, Below w.heap.size w w' → b < w.heap.size → U w b → U w' b) (v : Value) (d : VT n) (w : World), IsV U w n v d → SmallV n d →
    Calls Try.prog 13 #[v] w fun e w' => ∃ v', e = .returned v' ∧ IsD w' n w.heap.size w'.heap.size v' d ∧ Below w.heap.size w w' := by
  intro n
  induction n with
  | zero => intro U _ v d w h; exact h.elim
  | succ n ih =>
    intro U hU v d w h hsm
    obtain ⟨k, i, s, l, ks⟩ := d
    obtain ⟨a, c, b, e, rfl, hS, hL⟩ := h.parts
    obtain ⟨_, hz2, hz3, _, hz5⟩ := hsm
    have hz2 : l.length * 80 ≤ 140737488351232 := hz2
    have hz3 : ks.length * 16 ≤ 140737488351232 := hz3
    have hz5 : ∀ x ∈ l, SmallV n x := hz5
    simp only at hS hL ⊢
    clear h
    obtain ⟨x, hx⟩ : ∃ x : ByteArray, (⟨s.toArray⟩ : ByteArray) = x := ⟨_, rfl⟩
    rw [hx]
    obtain ⟨i0, hi, hy0, hy1, hy2⟩ := info_parts info_strV
    obtain ⟨j0, hj, hv0, hv1, hv2⟩ := info_parts info_val
    obtain ⟨W, hW⟩ : ∃ W, ((w.alloc (.cells #[.int .i64 k, .int .i64 i, .string x, .slice a l.length c, .slice b ks.length e] 25)).alloc (.cells #[.int .i64 0, .int .i64 0, .string ⟨#[]⟩, .slice none 0 0, .slice none 0 0] 25)).alloc (.cells #[.int .i64 k, .int .i64 i, .string x, .slice none 0 0, .slice none 0 0] 25) = W := ⟨_, rfl⟩
    have hBW : Below w.heap.size w W := by rw [← hW]; exact (((Below.refl _ _).alloc (Nat.le_refl _) _).alloc (by simp) _).alloc (by simp; omega) _
    have K1 : Blk W w.heap.size 25 #[.int .i64 k, .int .i64 i, .string x, .slice a l.length c, .slice b ks.length e] := by
      rw [← hW]; exact ((Blk.new w _ _).alloc _).alloc _
    have K2 : Blk W (w.heap.size + 1) 25 #[.int .i64 0, .int .i64 0, .string ⟨#[]⟩, .slice none 0 0, .slice none 0 0] := by
      rw [← hW]
      have := (Blk.new (w.alloc (.cells #[.int .i64 k, .int .i64 i, .string x, .slice a l.length c, .slice b ks.length e] 25)) 25 #[.int .i64 0, .int .i64 0, .string ⟨#[]⟩, .slice none 0 0, .slice none 0 0]).alloc (.cells #[.int .i64 k, .int .i64 i, .string x, .slice none 0 0, .slice none 0 0] 25)
      simpa using this
    have K3 : Blk W (w.heap.size + 1 + 1) 25 #[.int .i64 k, .int .i64 i, .string x, .slice none 0 0, .slice none 0 0] := by
      rw [← hW]
      have := Blk.new ((w.alloc (.cells #[.int .i64 k, .int .i64 i, .string x, .slice a l.length c, .slice b ks.length e] 25)).alloc (.cells #[.int .i64 0, .int .i64 0, .string ⟨#[]⟩, .slice none 0 0, .slice none 0 0] 25)) 25 #[.int .i64 k, .int .i64 i, .string x, .slice none 0 0, .slice none 0 0]
      simpa using this
    have hSW := hide (hS.on (Stays.of_below hBW fun b h => hU _ _ b hBW h))
    have HL := hide hL; have HX := hide hx; have HZ5 := hide hz5
    have HW := hide hW
    have l3 := K3.lt
    clear hS hL hx hz5 hW
    rcases b with _ | ad
    · obtain rfl : ks = [] := by
        cases ks with
        | nil => rfl
        | cons x ks => obtain ⟨_, _, h, _⟩ := hSW.out 0 x rfl; cases h
      simp only [List.length_nil] at K1
      have hI : Hid (OwnE w W n W.heap.size #[.int .i64 k, .int .i64 i, .string x, .slice a l.length c, .slice none 0 e] k i x none 0 none 0 [] [] []) :=
        ⟨hBW, by omega, K1, K2, K3, fun j y hy => by simp at hy, RowD.nil _ _ _⟩
      have hw2 := HW.out
      simp only [List.length_nil] at hw2
      have HW2 := hide hw2
      clear K1 K2 K3 hBW hw2
      go_enter Try.func13, Try.ntmps13
      go_wp2_with fail
      rw [HW2.out]
      go_loopw [4] (fun iv wr => ∃ (j : Nat) (A0 : Option Addr) (cp : Nat) (es : List VF) (xs : List (VT n)), iv = .int .i64 (j : Int) ∧ j ≤ l.length ∧ xs.length = j ∧ W.heap.size ≤ wr.heap.size ∧ Hid (xs = l.take j) ∧ Hid (OwnE w wr n W.heap.size #[.int .i64 k, .int .i64 i, .string x, .slice a l.length c, .slice none 0 e] k i x A0 cp none 0 [] es xs)) (fun iv _ => l.length - (intOf iv).toNat)
      case atStart => exact ⟨0, _, _, [], [], rfl, Nat.zero_le _, rfl, Nat.le_refl _, rfl, hI⟩
      case round =>
        obtain ⟨j, A0, cp, es, xs, rfl, hjl, hxl, hwz, hxs, hI⟩ := hrel
        have bel := hI.out.bel
        have p3 := hI.out.b1.cell 3
        have q3 := hI.out.b3.cell 3
        have zq3 := hI.out.b3.frozen 3
        simp at p3 q3
        rw [hxl] at q3
        have zn := hI.out.b3.lt
        have hbs := hI.out.bs
        by_cases hlt : j < l.length
        · obtain ⟨y, hy⟩ : ∃ y, l[j]? = some y := ⟨_, List.getElem?_eq_getElem hlt⟩
          have hstay : Stays U U w wr := Stays.of_below bel fun b h => hU _ _ b bel h
          obtain ⟨g, o, rfl, hg, _, k2, i2, s2, a1, n1, d1, a2, n2, d2, ⟨f0, f1, f2, f3, f4⟩, hV⟩ := (HL.out.on (R' := IsV U wr n) hstay (IsV.on hstay n)) j y hy
          have cO := hide (fun W' (h : Below wr.heap.size wr W') => ih U hU _ y W' (IsV.on (Stays.of_below h fun b hh => hU _ _ b h hh) n _ _ hV) (HZ5.out y (List.mem_of_getElem? hy)))
          have hji : (j : Int) < (l.length : Int) := by omega
          have hel : es.length = j := by rw [hI.out.row.len, hxl]
          have hown := hI.out.row.own
          rw [hel, hxl] at hown
          have hnx := hide (show xs ++ [y] = l.take (j + 1) by rw [hxs.out, List.take_add_one, hy]; rfl)
          have hI3 := hide hI.out.b3
          have hne : some (w.heap.size + 1 + 1) ≠ (Value.slice A0 j cp).ownBlock := fun e => by have := (hown.lt _ e.symm).1; omega
          clear hV hstay hy bel
          go_wp2_with fail
          go_region_law (first
            | (refine step_append_lies _ rfl (.tmp 26) (.tmp 33) 22 rfl W.heap.size 25 j0 (.agg #[.int .i64 0, .int .i64 0, .string ⟨#[]⟩, .slice none 0 0, .slice none 0 0]) 5 80 Try.underlying22 hj hv0 hv1 hv2 rfl (by decide) (.slice A0 j cp) j _ (by simp [Act.eval, Act.put]) (hownP.alloc _) ⟨wP.heap.size, 0, none⟩ 1 1 ev.cells (by simp [Act.eval, Act.put]) rfl (by intro t u ht; match t, ht with | 0, ht => (simp [VF.cells] at ht; subst ht; simp [Addr.add]) | 1, ht => (simp [VF.cells] at ht; subst ht; simp [Addr.add]) | 2, ht => (simp [VF.cells] at ht; subst ht; simp [Addr.add]) | 3, ht => (simp [VF.cells] at ht; subst ht; simp [Addr.add]) | 4, ht => (simp [VF.cells] at ht; subst ht; simp [Addr.add])) (by intro u hu; simp [VF.cells] at hu; rcases hu with rfl | rfl | rfl | rfl | rfl <;> rfl) (by omega) (by unfold maxLen; omega) (by omega) (by simp; omega) _ rfl ?_; intro g4 cp4 w4 hown4 hgrow4 hat4 hlt4; have hb3 : Blk w4 (w.heap.size + 1 + 1) 25 #[.int .i64 k, .int .i64 i, .string x, .slice A0 xs.length cp, .slice none 0 0] := (HP3.out.alloc _).grown hgrow4 hne; have zz3 := hb3.frozen 3; have qq3 := hb3.cell 3; have l4 := hb3.lt; simp at qq3)
            | (go_simp; go_at_call 13; refine (cO.out _ (Below.refl _ _).drew).mono ?_; rintro e wP ⟨v', rfl, hVP, hbP⟩; obtain ⟨ev, rfl⟩ := hVP.shape; have hBP := hide ((Below.refl wr.heap.size wr).drew.trans hbP); have hownP := own_keepV hown hBP.out; have HP3 := hide (hI3.out.below hBP.out zn); have HVP := hide hVP; have hPz := hBP.out.size; have q3P := HP3.out.cell 3; have zq3P := HP3.out.frozen 3; have lP := HP3.out.lt; simp at q3P; rw [hxl] at q3P; clear hVP hbP))
          all_goals
            have hIn := hide (hI.out.step hBP.out HVP.out (Nat.le_refl _) hwz ((Below.refl wP.heap.size wP).alloc (Nat.le_refl _) _) (by rw [hxl]; exact hgrow4) (by rw [hel]; exact hown4) (by rw [hxl]; exact hat4))
            rw [hel] at hIn
            have hz4 := hgrow4.size
            simp only [World.size_alloc] at hz4
            clear hown4 hgrow4 hat4 hownP hb3 qq3
            go_wp2_with fail
            go_roundw
            case rel => exact ⟨j + 1, _, _, _, _, by go_num, by omega, by simp [hxl], by simp; omega, hnx.out, hIn.out⟩
            case measure => simp [intOf]; omega
        · obtain rfl : j = l.length := by omega
          have hif : decide ((l.length : Int) < (l.length : Int)) = false := by simp
          have hxe : xs = l := by rw [hxs.out, List.take_length]
          subst hxe
          have r0 := hI.out.b3.cell 0; have r1 := hI.out.b3.cell 1; have r2 := hI.out.b3.cell 2; have r4 := hI.out.b3.cell 4
          have o0 := hI.out.b2.cell 0; have o1 := hI.out.b2.cell 1; have o2 := hI.out.b2.cell 2; have o3 := hI.out.b2.cell 3; have o4 := hI.out.b2.cell 4
          have y0 := hI.out.b2.frozen 0; have y1 := hI.out.b2.frozen 1; have y2 := hI.out.b2.frozen 2; have y3 := hI.out.b2.frozen 3; have y4 := hI.out.b2.frozen 4
          simp at r0 r1 r2 r4 o0 o1 o2 o3 o4
          have hDn := hide (fun v0 v1 v2 v3 v4 => (show OwnE w wr n W.heap.size _ k i ⟨s.toArray⟩ A0 cp none 0 [] es xs by rw [HX.out]; exact hI.out).done v0 v1 v2 v3 v4)
          go_wp2_with fail
          obtain ⟨hV5, hb5, hK5⟩ := hDn.out (.int .i64 k) (.int .i64 i) (.string x) (.slice A0 xs.length cp) (.slice none 0 0)
          rw [HX.out] at hV5
          unfold set5 at hV5 hb5 hK5
          clear r0 r1 r2 r4 o0 o1 o2 o3 o4 y0 y1 y2 y3 y4 p3 q3 zq3
          generalize ((((wr.setCell ⟨w.heap.size + 1, 0, none⟩ (.int .i64 k)).setCell ⟨w.heap.size + 1, 1, none⟩ (.int .i64 i)).setCell ⟨w.heap.size + 1, 2, none⟩ (.string x)).setCell ⟨w.heap.size + 1, 3, none⟩ (.slice A0 xs.length cp)).setCell ⟨w.heap.size + 1, 4, none⟩ (.slice none 0 0) = w5 at hV5 hb5 hK5 ⊢
          have r0 := hK5.cell 0; have r1 := hK5.cell 1; have r2 := hK5.cell 2; have r3 := hK5.cell 3; have r4 := hK5.cell 4
          simp at r0 r1 r2 r3 r4
          have HV5 := hide hV5; have HB5 := hide hb5
          clear hV5 hb5
          simp [bodyPost, results, Try.results13, go_sem, r0, r1, r2, r3, r4]
          exact ⟨HV5.out, HB5.out⟩
    · go_enter Try.func13, Try.ntmps13
      have hI0 := hide (And.intro K1 (And.intro K2 (And.intro K3 hBW)))
      clear K1 K2 K3 hBW
      go_wp2_with (at_builtin; refine wpList_append_own _ rfl _ _ 23 rfl (w.heap.size + 3) 9 i0 (.string ⟨#[]⟩) 1 16 Try.underlying23 hi hy0 hy1 hy2 rfl (by decide) _ 0 [] rfl (World.ownsRow_nil _ _ _ _) ad ks.length e (ks.map (fun x => .string ⟨x.toArray⟩)) rfl ?n1 ?n2 ?n3 ?n4 ?n5 ?n6 ?_)
      case n2 =>
        intro j u hu
        rw [HW.out]
        obtain ⟨g, off, he, _, _, hc⟩ := hSW.out j u hu
        injection he with he
        subst he
        rw [Addr.add_lit]
        exact hc
      case n3 => intro u hu; rfl
      case n4 => unfold maxLen; omega
      case n5 => omega
      intro v' w4 hown' hgrow hnil
      rw [HW.out] at hgrow
      obtain ⟨A5, c5, rfl⟩ := own_sliceV hown'
      obtain ⟨K1, K2, K3, hBW⟩ := hI0.out
      have hb4 : Below W.heap.size W w4 := (Below.refl _ _).grown hgrow (Nat.le_refl _) (fun k e => by cases e)
      have K34 := K3.below hb4 l3
      have c34 := K34.cell 4; have f34 := K34.frozen 4
      simp at c34
      have hI1 := hide (And.intro K1 (And.intro K2 (And.intro K34 hBW)))
      have HO := hide hown'; have HB4 := hide hb4
      clear K1 K2 K3 K34 hBW hnil hgrow hown' hb4
      go_wp2_with fail
      have hI : Hid (OwnE w (w4.setCell ⟨w.heap.size + 1 + 1, 4, none⟩ (.slice A5 ks.length c5)) n (w4.setCell ⟨w.heap.size + 1 + 1, 4, none⟩ (.slice A5 ks.length c5)).heap.size #[.int .i64 k, .int .i64 i, .string x, .slice a l.length c, .slice (some ad) ks.length e] k i x none 0 A5 c5 ks [] []) := by
        obtain ⟨K1, K2, K34, hBW⟩ := hI1.out
        have hb4 := HB4.out
        have hz4 := hb4.size
        have h3 := K34.set_ 4 (.slice A5 ks.length c5)
        simp at h3
        refine ⟨(hBW.trans (hb4.mono hBW.size)).setCell (p := ⟨w.heap.size + 1 + 1, 4, none⟩) (by simp; omega) _, by simp; omega, (K1.below hb4 (by omega)).far (p := ⟨w.heap.size + 1 + 1, 4, none⟩) (by simp; omega) _, (K2.below hb4 (by omega)).far (p := ⟨w.heap.size + 1 + 1, 4, none⟩) (by simp) _, h3, ?_, RowD.nil _ _ _⟩
        refine StrsAt.on (U := freshB (w.heap.size + 3)) (own_strs HO.out rfl (Nat.le_refl _)) ⟨by simp, ?_⟩
        rintro b hb ⟨h1, cs, t, h2⟩
        have he := Below.heap_setCell w4 ⟨w.heap.size + 1 + 1, 4, none⟩ (.slice A5 ks.length c5) b (by simp; omega)
        exact ⟨he, ⟨h1, cs, t, he.trans h2⟩, by simpa using hb⟩
      clear hI1 HO HB4 c34 f34
      generalize w4.setCell ⟨w.heap.size + 1 + 1, 4, none⟩ (.slice A5 ks.length c5) = W5 at hI ⊢
      go_loopw [4] (fun iv wr => ∃ (j : Nat) (A0 : Option Addr) (cp : Nat) (es : List VF) (xs : List (VT n)), iv = .int .i64 (j : Int) ∧ j ≤ l.length ∧ xs.length = j ∧ W5.heap.size ≤ wr.heap.size ∧ Hid (xs = l.take j) ∧ Hid (OwnE w wr n W5.heap.size #[.int .i64 k, .int .i64 i, .string x, .slice a l.length c, .slice (some ad) ks.length e] k i x A0 cp A5 c5 ks es xs)) (fun iv _ => l.length - (intOf iv).toNat)
      case atStart => exact ⟨0, _, _, [], [], rfl, Nat.zero_le _, rfl, Nat.le_refl _, rfl, hI⟩
      case round =>
        obtain ⟨j, A0, cp, es, xs, rfl, hjl, hxl, hwz, hxs, hI⟩ := hrel
        have bel := hI.out.bel
        have p3 := hI.out.b1.cell 3
        have q3 := hI.out.b3.cell 3
        have zq3 := hI.out.b3.frozen 3
        simp at p3 q3
        rw [hxl] at q3
        have zn := hI.out.b3.lt
        have hbs := hI.out.bs
        by_cases hlt : j < l.length
        · obtain ⟨y, hy⟩ : ∃ y, l[j]? = some y := ⟨_, List.getElem?_eq_getElem hlt⟩
          have hstay : Stays U U w wr := Stays.of_below bel fun b h => hU _ _ b bel h
          obtain ⟨g, o, rfl, hg, _, k2, i2, s2, a1, n1, d1, a2, n2, d2, ⟨f0, f1, f2, f3, f4⟩, hV⟩ := (HL.out.on (R' := IsV U wr n) hstay (IsV.on hstay n)) j y hy
          have cO := hide (fun W' (h : Below wr.heap.size wr W') => ih U hU _ y W' (IsV.on (Stays.of_below h fun b hh => hU _ _ b h hh) n _ _ hV) (HZ5.out y (List.mem_of_getElem? hy)))
          have hji : (j : Int) < (l.length : Int) := by omega
          have hel : es.length = j := by rw [hI.out.row.len, hxl]
          have hown := hI.out.row.own
          rw [hel, hxl] at hown
          have hnx := hide (show xs ++ [y] = l.take (j + 1) by rw [hxs.out, List.take_add_one, hy]; rfl)
          have hI3 := hide hI.out.b3
          have hne : some (w.heap.size + 1 + 1) ≠ (Value.slice A0 j cp).ownBlock := fun e => by have := (hown.lt _ e.symm).1; omega
          clear hV hstay hy bel
          go_wp2_with fail
          go_region_law (first
            | (refine step_append_lies _ rfl (.tmp 26) (.tmp 33) 22 rfl W5.heap.size 25 j0 (.agg #[.int .i64 0, .int .i64 0, .string ⟨#[]⟩, .slice none 0 0, .slice none 0 0]) 5 80 Try.underlying22 hj hv0 hv1 hv2 rfl (by decide) (.slice A0 j cp) j _ (by simp [Act.eval, Act.put]) (hownP.alloc _) ⟨wP.heap.size, 0, none⟩ 1 1 ev.cells (by simp [Act.eval, Act.put]) rfl (by intro t u ht; match t, ht with | 0, ht => (simp [VF.cells] at ht; subst ht; simp [Addr.add]) | 1, ht => (simp [VF.cells] at ht; subst ht; simp [Addr.add]) | 2, ht => (simp [VF.cells] at ht; subst ht; simp [Addr.add]) | 3, ht => (simp [VF.cells] at ht; subst ht; simp [Addr.add]) | 4, ht => (simp [VF.cells] at ht; subst ht; simp [Addr.add])) (by intro u hu; simp [VF.cells] at hu; rcases hu with rfl | rfl | rfl | rfl | rfl <;> rfl) (by omega) (by unfold maxLen; omega) (by omega) (by simp; omega) _ rfl ?_; intro g4 cp4 w4 hown4 hgrow4 hat4 hlt4; have hb3 : Blk w4 (w.heap.size + 1 + 1) 25 #[.int .i64 k, .int .i64 i, .string x, .slice A0 xs.length cp, .slice A5 ks.length c5] := (HP3.out.alloc _).grown hgrow4 hne; have zz3 := hb3.frozen 3; have qq3 := hb3.cell 3; have l4 := hb3.lt; simp at qq3)
            | (go_simp; go_at_call 13; refine (cO.out _ (Below.refl _ _).drew).mono ?_; rintro e wP ⟨v', rfl, hVP, hbP⟩; obtain ⟨ev, rfl⟩ := hVP.shape; have hBP := hide ((Below.refl wr.heap.size wr).drew.trans hbP); have hownP := own_keepV hown hBP.out; have HP3 := hide (hI3.out.below hBP.out zn); have HVP := hide hVP; have hPz := hBP.out.size; have q3P := HP3.out.cell 3; have zq3P := HP3.out.frozen 3; have lP := HP3.out.lt; simp at q3P; rw [hxl] at q3P; clear hVP hbP))
          all_goals
            have hIn := hide (hI.out.step hBP.out HVP.out (Nat.le_refl _) hwz ((Below.refl wP.heap.size wP).alloc (Nat.le_refl _) _) (by rw [hxl]; exact hgrow4) (by rw [hel]; exact hown4) (by rw [hxl]; exact hat4))
            rw [hel] at hIn
            have hz4 := hgrow4.size
            simp only [World.size_alloc] at hz4
            clear hown4 hgrow4 hat4 hownP hb3 qq3
            go_wp2_with fail
            go_roundw
            case rel => exact ⟨j + 1, _, _, _, _, by go_num, by omega, by simp [hxl], by simp; omega, hnx.out, hIn.out⟩
            case measure => simp [intOf]; omega
        · obtain rfl : j = l.length := by omega
          have hif : decide ((l.length : Int) < (l.length : Int)) = false := by simp
          have hxe : xs = l := by rw [hxs.out, List.take_length]
          subst hxe
          have r0 := hI.out.b3.cell 0; have r1 := hI.out.b3.cell 1; have r2 := hI.out.b3.cell 2; have r4 := hI.out.b3.cell 4
          have o0 := hI.out.b2.cell 0; have o1 := hI.out.b2.cell 1; have o2 := hI.out.b2.cell 2; have o3 := hI.out.b2.cell 3; have o4 := hI.out.b2.cell 4
          have y0 := hI.out.b2.frozen 0; have y1 := hI.out.b2.frozen 1; have y2 := hI.out.b2.frozen 2; have y3 := hI.out.b2.frozen 3; have y4 := hI.out.b2.frozen 4
          simp at r0 r1 r2 r4 o0 o1 o2 o3 o4
          have hDn := hide (fun v0 v1 v2 v3 v4 => (show OwnE w wr n W5.heap.size _ k i ⟨s.toArray⟩ A0 cp A5 c5 ks es xs by rw [HX.out]; exact hI.out).done v0 v1 v2 v3 v4)
          go_wp2_with fail
          obtain ⟨hV5, hb5, hK5⟩ := hDn.out (.int .i64 k) (.int .i64 i) (.string x) (.slice A0 xs.length cp) (.slice A5 ks.length c5)
          rw [HX.out] at hV5
          unfold set5 at hV5 hb5 hK5
          clear r0 r1 r2 r4 o0 o1 o2 o3 o4 y0 y1 y2 y3 y4 p3 q3 zq3
          generalize ((((wr.setCell ⟨w.heap.size + 1, 0, none⟩ (.int .i64 k)).setCell ⟨w.heap.size + 1, 1, none⟩ (.int .i64 i)).setCell ⟨w.heap.size + 1, 2, none⟩ (.string x)).setCell ⟨w.heap.size + 1, 3, none⟩ (.slice A0 xs.length cp)).setCell ⟨w.heap.size + 1, 4, none⟩ (.slice A5 ks.length c5) = w5 at hV5 hb5 hK5 ⊢
          have r0 := hK5.cell 0; have r1 := hK5.cell 1; have r2 := hK5.cell 2; have r3 := hK5.cell 3; have r4 := hK5.cell 4
          simp at r0 r1 r2 r3 r4
          have HV5 := hide hV5; have HB5 := hide hb5
          clear hV5 hb5
          simp [bodyPost, results, Try.results13, go_sem, r0, r1, r2, r3, r4]
          exact ⟨HV5.out, HB5.out⟩
end Go.Proofs.Ytdnmgpidfjkiaaa
