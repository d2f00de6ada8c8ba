/-
  SpoilValue: a value of its own is written over; all else stays.
-/
import Derived.Test.YtdnmgpidfjkiaaaVDis
namespace Go.Proofs.Ytdnmgpidfjkiaaa
open Go.RowKit
set_option linter.unusedVariables false
set_option linter.unusedSimpArgs false

/-- But for the blocks from lo up to hi, and new ones, all is as it was. -/
structure Spoilt (lo hi : Nat) (w w' : World) : Prop where
  os : w'.os = w.os
  tape : w'.tape = w.tape
  output : w'.output = w.output
  size : w.heap.size ≤ w'.heap.size
  block : ∀ b, b < w.heap.size → ¬ (lo ≤ b ∧ b < hi) → w'.heap[b]? = w.heap[b]?
theorem Spoilt.of_below {lo hi : Nat} {w w' : World} (h : Below w.heap.size w w') : Spoilt lo hi w w' := ⟨h.os, h.tape, h.output, h.size, fun b hb _ => h.block b hb⟩
theorem Spoilt.trans {lo hi lo1 hi1 : Nat} {w w1 w2 : World} (h : Spoilt lo hi w w1) (k : Spoilt lo1 hi1 w1 w2) (h1 : lo ≤ lo1) (h2 : hi1 ≤ hi) : Spoilt lo hi w w2 :=
  ⟨k.os.trans h.os, k.tape.trans h.tape, k.output.trans h.output, Nat.le_trans h.size k.size, fun b hb hn => (k.block b (Nat.lt_of_lt_of_le hb h.size) (by omega)).trans (h.block b hb hn)⟩
theorem Spoilt.set_ {lo hi : Nat} {w w1 : World} (h : Spoilt lo hi w w1) {p : Addr} (hp : lo ≤ p.block ∧ p.block < hi) (u : Value) : Spoilt lo hi w (w1.setCell p u) :=
  ⟨h.os, h.tape, h.output, by simpa using h.size, fun b hb hn => (Below.heap_setCell w1 p u b (fun e => hn (by rw [e]; exact hp))).trans (h.block b hb hn)⟩
theorem Spoilt.below {lo hi N : Nat} {a w w' : World} (hb : Below N a w) (h : Spoilt lo hi w w') (hN : N ≤ lo) (hz : N ≤ w.heap.size) : Below N a w' :=
  ⟨h.os.trans hb.os, h.tape.trans hb.tape, h.output.trans hb.output, Nat.le_trans hb.size h.size, fun b h1 => (h.block b (by omega) (by omega)).trans (hb.block b h1)⟩
theorem set_other {w : World} {b o o' : Nat} {cs : Array Value} {t : TypeId} (h : w.heap[b]? = some (.cells cs t)) (ho : o' ≠ o) (u : Value) : (w.setCell ⟨b, o, none⟩ u).cell? ⟨b, o', none⟩ = w.cell? ⟨b, o', none⟩ := by
  have hB : Blk w b t cs := h
  rw [(hB.set_ o u).cell o', hB.cell o']
  simp [Array.getElem?_setIfInBounds, ho.symm]
theorem set_form {w : World} {b o : Nat} {u : Value} {cs : Array Value} {t : TypeId} (h : w.heap[b]? = some (.cells cs t)) : ∃ cs' t', (w.setCell ⟨b, o, none⟩ u).heap[b]? = some (.cells cs' t') := by
  have hB : Blk w b t cs := h
  exact ⟨_, _, hB.set_ o u⟩
theorem inB.set_ {lo hi b o : Nat} {w : World} {u : Value} (h : inB lo hi w b) : inB lo hi (w.setCell ⟨b, o, none⟩ u) b := by
  obtain ⟨h1, h2, cs, t, h3⟩ := h
  exact ⟨h1, h2, set_form h3⟩
theorem inB.frozen {lo hi b : Nat} {w : World} (h : inB lo hi w b) (o : Nat) : w.frozen? ⟨b, o, none⟩ = false := by
  obtain ⟨_, _, cs, t, h3⟩ := h
  have hB : Blk w b t cs := h3
  exact hB.frozen o
theorem inB.other {lo hi b o o' : Nat} {w : World} (h : inB lo hi w b) (ho : o' ≠ o) (u : Value) : (w.setCell ⟨b, o, none⟩ u).cell? ⟨b, o', none⟩ = w.cell? ⟨b, o', none⟩ := by
  obtain ⟨_, _, cs, t, h3⟩ := h
  exact set_other h3 ho u
/-- Five stores at a place. -/
abbrev put5 (w : World) (b o : Nat) (v0 v1 v2 v3 v4 : Value) : World := ((((w.setCell ⟨b, o, none⟩ v0).setCell ⟨b, o + 1, none⟩ v1).setCell ⟨b, o + 2, none⟩ v2).setCell ⟨b, o + 3, none⟩ v3).setCell ⟨b, o + 4, none⟩ v4
theorem put5_inB {lo hi b o : Nat} {w : World} {v0 v1 v2 v3 v4 : Value} (h : inB lo hi w b) : inB lo hi (put5 w b o v0 v1 v2 v3 v4) b := h.set_.set_.set_.set_.set_
theorem put5_heap {b o : Nat} {w : World} {v0 v1 v2 v3 v4 : Value} (j : Nat) (h : j ≠ b) : (put5 w b o v0 v1 v2 v3 v4).heap[j]? = w.heap[j]? := by
  unfold put5
  rw [Below.heap_setCell _ _ _ j h, Below.heap_setCell _ _ _ j h, Below.heap_setCell _ _ _ j h, Below.heap_setCell _ _ _ j h, Below.heap_setCell _ _ _ j h]
theorem put5_size {b o : Nat} {w : World} {v0 v1 v2 v3 v4 : Value} : (put5 w b o v0 v1 v2 v3 v4).heap.size = w.heap.size := by simp [put5]
theorem put5_cell {lo hi b o o' : Nat} {w : World} {v0 v1 v2 v3 v4 : Value} (h : inB lo hi w b) (ho : o' < o ∨ o + 5 ≤ o') : (put5 w b o v0 v1 v2 v3 v4).cell? ⟨b, o', none⟩ = w.cell? ⟨b, o', none⟩ := by
  unfold put5
  rw [h.set_.set_.set_.set_.other (by omega), h.set_.set_.set_.other (by omega), h.set_.set_.other (by omega), h.set_.other (by omega), h.other (by omega)]
theorem put5_spoilt {lo hi b o : Nat} {w w1 : World} {v0 v1 v2 v3 v4 : Value} (h : Spoilt lo hi w w1) (hb : lo ≤ b ∧ b < hi) : Spoilt lo hi w (put5 w1 b o v0 v1 v2 v3 v4) :=
  ((((h.set_ (p := ⟨b, o, none⟩) hb _).set_ (p := ⟨b, o + 1, none⟩) hb _).set_ (p := ⟨b, o + 2, none⟩) hb _).set_ (p := ⟨b, o + 3, none⟩) hb _).set_ (p := ⟨b, o + 4, none⟩) hb _
/-- What does not turn. -/
def Fixed {α : Type} (lo hi : Nat) (f g : Nat → Nat) (a a2 : Option Addr) (l : List α) (ks : List (List UInt8)) : Prop :=
  ∀ r (x : α), l[r]? = some x → lo ≤ f r ∧ g r ≤ hi ∧ (∀ b off, a = some ⟨b, off, none⟩ → ¬ (f r ≤ b ∧ b < g r)) ∧ (∀ i, i < r → g i ≤ f r) ∧ ∀ kb ko, ks ≠ [] → a2 = some ⟨kb, ko, none⟩ → ¬ (f r ≤ kb ∧ kb < g r) ∧ ∀ b off, a = some ⟨b, off, none⟩ → kb ≠ b
/-- What is still as it was, from element j on; and the keys. -/
structure SpI {n : Nat} (w wr : World) (lo hi j : Nat) (f g : Nat → Nat) (a a2 : Option Addr) (l : List (VT n)) (ks : List (List UInt8)) : Prop where
  sp : Spoilt lo hi w wr
  keys : StrsAt (inB lo hi) wr a2 ks
  from_ : ∀ r (x : VT n), j ≤ r → l[r]? = some x → ∃ b off k i s a1 n1 c1 a3 n3 c3, a = some ⟨b, off, none⟩ ∧ inB lo hi wr b ∧ Five wr b (off + r * 5) k i s a1 n1 c1 a3 n3 c3 ∧ IsD wr n (f r) (g r) (valV k i s a1 n1 c1 a3 n3 c3) x
theorem SpI.step {n lo hi j b off : Nat} {w wr wP : World} {f g : Nat → Nat} {a2 : Option Addr} {l : List (VT n)} {ks : List (List UInt8)} {x : VT n} (h : SpI w wr lo hi j f g (some ⟨b, off, none⟩) a2 l ks) (hx : l[j]? = some x) (hF : Fixed lo hi f g (some ⟨b, off, none⟩) a2 l ks)
    (hP : Spoilt (f j) (g j) wr wP) (hhi : hi ≤ w.heap.size) (v0 v1 v2 v3 v4 : Value) :
    inB lo hi wP b ∧ (∀ o, wP.cell? ⟨b, o, none⟩ = wr.cell? ⟨b, o, none⟩) ∧ SpI w (put5 wP b (off + j * 5) v0 v1 v2 v3 v4) lo hi (j + 1) f g (some ⟨b, off, none⟩) a2 l ks := by
  obtain ⟨b', off', _, _, _, _, _, _, _, _, _, ha, ⟨q1, q2, cs, t, q3⟩, _, _⟩ := h.from_ j x (Nat.le_refl _) hx
  injection ha with ha
  injection ha with h1 h2
  subst h1; subst h2
  obtain ⟨p1, p2, p3, p4, p5⟩ := hF j x hx
  have hsz := h.sp.size
  have hbk : wP.heap[b]? = wr.heap[b]? := hP.block b (by omega) (p3 b off rfl)
  have hIn : inB lo hi wP b := ⟨q1, q2, cs, t, hbk.trans q3⟩
  refine ⟨hIn, fun o => cellB hbk o, put5_spoilt (h.sp.trans hP p1 p2) ⟨q1, q2⟩, ?_, ?_⟩
  · intro r y hy
    obtain ⟨kb, ko, hk, hlt, ⟨c1, c2, cs2, t2, c3⟩, hc⟩ := h.keys r y hy
    have hks : ks ≠ [] := by intro e; rw [e] at hy; simp at hy
    obtain ⟨e1, e2⟩ := p5 kb ko hks hk
    have e3 : (put5 wP b (off + j * 5) v0 v1 v2 v3 v4).heap[kb]? = wr.heap[kb]? := (put5_heap kb (e2 b off rfl)).trans (hP.block kb hlt e1)
    exact ⟨kb, ko, hk, by rw [put5_size]; exact Nat.lt_of_lt_of_le hlt hP.size, ⟨c1, c2, cs2, t2, e3.trans c3⟩, (cellB e3 _).trans hc⟩
  · intro r y hr hy
    obtain ⟨b', off', k, i, s, a1, n1, c1, a3, n3, c3, ha, _, ⟨f0, f1, f2, f3, f4⟩, hD⟩ := h.from_ r y (by omega) hy
    injection ha with ha
    injection ha with h1 h2
    subst h1; subst h2
    obtain ⟨r1, r2, r3, r4, r5⟩ := hF r y hy
    have r4j := r4 j (by omega)
    have hcell : ∀ o v, off + (j + 1) * 5 ≤ o → wr.cell? ⟨b, o, none⟩ = some v → (put5 wP b (off + j * 5) v0 v1 v2 v3 v4).cell? ⟨b, o, none⟩ = some v := by
      intro o v ho hv
      rw [put5_cell hIn (by omega)]
      exact (cellB hbk o).trans hv
    refine ⟨b, off, k, i, s, a1, n1, c1, a3, n3, c3, rfl, put5_inB hIn, ⟨hcell _ _ (by omega) f0, hcell _ _ (by omega) f1, hcell _ _ (by omega) f2, hcell _ _ (by omega) f3, hcell _ _ (by omega) f4⟩, ?_⟩
    refine IsD.on (by rw [put5_size]; exact hP.size) n _ _ _ _ _ _ (Nat.le_refl _) (Nat.le_refl _) (fun b' h3 h4 => ?_) hD
    have hne : b' ≠ b := fun e => r3 b off rfl (by rw [← e]; exact ⟨h3, h4⟩)
    exact (put5_heap b' hne).trans (hP.block b' (by omega) (by omega))
set_option maxHeartbeats 4000000 in
set_option maxRecDepth 100000 in
theorem spoil_any : ∀ (n lo hi : Nat) (v : Value) (d : VT n) (w : World) (deep : Int), 0 ≤ deep → deep ≤ 100 → IsD w n lo hi v d → hi ≤ w.heap.size → SmallV n d →
    Calls Try.prog 17 #[v, .int .i64 deep] w fun e w' => e = .returned (.tuple #[]) ∧ Spoilt lo hi w w' := by
  intro n
  induction n with
  | zero => intro lo hi v d w deep _ _ h; exact h.elim
  | succ n ih =>
    intro lo hi v d w deep hd0 hd1 h hhi hsm
    obtain ⟨k, i, s, l, ks⟩ := d
    obtain ⟨a, c, a2, c2, f, g, rfl, hS, hE⟩ := h.parts
    obtain ⟨_, hz2, hz3, _, hz5⟩ := hsm
    have hz2 : l.length * 80 ≤ 140737488351232 := hz2
    have hz3 : ks.length * 16 ≤ 140737488351232 := hz3
    have hz5 : ∀ x ∈ l, SmallV n x := hz5
    simp only at hS hE ⊢
    clear h
    generalize (⟨s.toArray⟩ : ByteArray) = x
    have hF : Hid (Fixed lo hi f g a a2 l ks) := by
      intro r y hy
      obtain ⟨b, off, _, _, _, _, _, _, _, _, _, ha, _, _, _, p1, p2, p3, p4, p5⟩ := hE r y hy
      refine ⟨p1, p2, fun b' off' e => ?_, p4, fun kb ko h1 h2 => ⟨(p5 kb ko h1 h2).2, fun b' off' e => ?_⟩⟩
      · rw [ha] at e; injection e with e; injection e with e1 e2; subst e1; exact p3
      · rw [ha] at e; injection e with e; injection e with e1 e2; subst e1; exact (p5 kb ko h1 h2).1
    have hb0 : Below w.heap.size w (w.alloc (.cells #[.int .i64 k, .int .i64 i, .string x, .slice a l.length c, .slice a2 ks.length c2] 25)) := (Below.refl _ _).alloc (Nat.le_refl _) _
    have hI : Hid (SpI w (w.alloc (.cells #[.int .i64 k, .int .i64 i, .string x, .slice a l.length c, .slice a2 ks.length c2] 25)) lo hi 0 f g a a2 l ks ∧ Blk (w.alloc (.cells #[.int .i64 k, .int .i64 i, .string x, .slice a l.length c, .slice a2 ks.length c2] 25)) w.heap.size 25 #[.int .i64 k, .int .i64 i, .string x, .slice a l.length c, .slice a2 ks.length c2]) := by
      refine ⟨⟨Spoilt.of_below hb0, hS.on (stays_in hb0.size (fun b _ h2 => hb0.block b (by omega)) (Nat.le_refl _) (Nat.le_refl _)), ?_⟩, Blk.new w _ _⟩
      intro r y _ hy
      obtain ⟨b, off, k, i, s, a1, n1, c1, a3, n3, c3, ha, ⟨q1, q2, cs, t, q3⟩, hFv, hD, p1, p2, p3, p4, p5⟩ := hE r y hy
      exact ⟨b, off, k, i, s, a1, n1, c1, a3, n3, c3, ha, ⟨q1, q2, cs, t, (hb0.block b (by omega)).trans q3⟩, hFv.on (hb0.block b (by omega)), IsD.on hb0.size n _ _ _ _ _ _ (Nat.le_refl _) (Nat.le_refl _) (fun b' h3 h4 => hb0.block b' (by omega)) hD⟩
    have HZ5 := hide hz5
    clear hS hE hz5 hb0
    go_enter Try.func17, Try.ntmps17
    go_wp2_with fail
    generalize w.alloc (.cells #[.int .i64 k, .int .i64 i, .string x, .slice a l.length c, .slice a2 ks.length c2] 25) = W at hI ⊢
    go_loopw [4] (fun iv wr => ∃ j : Nat, iv = .int .i64 (j : Int) ∧ j ≤ l.length ∧ Hid (SpI w wr lo hi j f g a a2 l ks ∧ Blk wr w.heap.size 25 #[.int .i64 k, .int .i64 i, .string x, .slice a l.length c, .slice a2 ks.length c2])) (fun iv _ => l.length - (intOf iv).toNat)
    case atStart => exact ⟨0, rfl, Nat.zero_le _, hI⟩
    case round =>
      clear hI
      obtain ⟨j, rfl, hjl, hI⟩ := hrel
      have p3 := hI.out.2.cell 3
      simp at p3
      have lb := hI.out.2.lt
      by_cases hlt : j < l.length
      · have hji : (j : Int) < (l.length : Int) := by omega
        by_cases hdp : 0 < deep
        · obtain ⟨y, hy⟩ : ∃ y, l[j]? = some y := ⟨_, List.getElem?_eq_getElem hlt⟩
          obtain ⟨b, off, k2, i2, s2, a1, n1, d1, a3, n3, d3, rfl, hin, ⟨f0, f1, f2, f3, f4⟩, hD⟩ := hI.out.1.from_ j y (Nat.le_refl _) hy
          have hpp := hF.out j y hy
          have hsp := hI.out.1.sp.size
          have cR := hide (ih (f j) (g j) _ y wr (deep - 1) (by omega) (by omega) hD (by omega) (HZ5.out y (List.mem_of_getElem? hy)))
          have hst := hide (fun wP (hP : Spoilt (f j) (g j) wr wP) => hI.out.1.step hy hF.out hP hhi (.int .i64 77) (.int .i64 0) (.string ⟨#[]⟩) (.slice none 0 0) (.slice none 0 0))
          have hK2 := hide hI.out.2
          have hwd : IntKind.i64.wrap (deep - 1) = deep - 1 := wrap_small _ (by omega) (by omega)
          have hpf1 := hpp.1; have hpf2 := hpp.2.1
          clear hD hpp hin hI hy
          go_wp2_with fail
          refine (cR.out).mono ?_
          rintro e wP ⟨rfl, hP⟩
          obtain ⟨hin, hcl, hnx⟩ := hst.out wP hP
          have e0 := (hcl _).trans f0; have e1 := (hcl _).trans f1; have e2 := (hcl _).trans f2; have e3 := (hcl _).trans f3; have e4 := (hcl _).trans f4
          have z0 := hin.frozen (off + j * 5); have z1 := hin.frozen (off + j * 5 + 1); have z2 := hin.frozen (off + j * 5 + 2); have z3 := hin.frozen (off + j * 5 + 3); have z4 := hin.frozen (off + j * 5 + 4)
          have hbz := hin.2.1
          have K2 : Blk wP w.heap.size 25 #[.int .i64 k, .int .i64 i, .string x, .slice (some ⟨b, off, none⟩) l.length c, .slice a2 ks.length c2] := (hP.block w.heap.size lb (by omega)).trans hK2.out
          have p3P := K2.cell 3
          simp at p3P
          have hnx2 := hide (And.intro hnx (show Blk (put5 wP b (off + j * 5) (.int .i64 77) (.int .i64 0) (.string ⟨#[]⟩) (.slice none 0 0) (.slice none 0 0)) w.heap.size 25 #[.int .i64 k, .int .i64 i, .string x, .slice (some ⟨b, off, none⟩) l.length c, .slice a2 ks.length c2] from (put5_heap w.heap.size (by omega)).trans K2))
          clear hP hin hcl hnx K2 f0 f1 f2 f3 f4
          go_wp2_with fail
          go_roundw
          case rel => exact ⟨j + 1, by go_num, by omega, hnx2.out⟩
          case measure => simp [intOf]; omega
        · obtain rfl : deep = 0 := by omega
          go_wp2_with fail
          go_loopw [5] (fun iv wr => ∃ q : Nat, iv = .int .i64 (q : Int) ∧ q ≤ ks.length ∧ Hid (Spoilt lo hi w wr ∧ Blk wr w.heap.size 25 #[.int .i64 k, .int .i64 i, .string x, .slice a l.length c, .slice a2 ks.length c2] ∧ ∀ r y, q ≤ r → ks[r]? = some y → ∃ kb ko, a2 = some ⟨kb, ko, none⟩ ∧ inB lo hi wr kb ∧ wr.cell? ⟨kb, ko + r, none⟩ = some (.string ⟨y.toArray⟩))) (fun iv _ => ks.length - (intOf iv).toNat)
          case atStart => exact ⟨0, rfl, Nat.zero_le _, hI.out.1.sp, hI.out.2, fun r y _ hy => by obtain ⟨kb, ko, h1, _, h2, h3⟩ := hI.out.1.keys r y hy; exact ⟨kb, ko, h1, h2, h3⟩⟩
          case round =>
            obtain ⟨q, rfl, hq, hK⟩ := hrel
            have p4 := hK.out.2.1.cell 4
            simp at p4
            have lb := hK.out.2.1.lt
            by_cases hql : q < ks.length
            · obtain ⟨y, hy⟩ : ∃ y, ks[q]? = some y := ⟨_, List.getElem?_eq_getElem hql⟩
              obtain ⟨kb, ko, rfl, hin, hc⟩ := hK.out.2.2 q y (Nat.le_refl _) hy
              have fz := hin.frozen (ko + q)
              have hqi : (q : Int) < (ks.length : Int) := by omega
              have hkb := hin.1; have hkh := hin.2.1
              have hnx : Hid (Spoilt lo hi w (wr.setCell ⟨kb, ko + q, none⟩ (.string ⟨#[115, 112, 111, 105, 108, 116]⟩)) ∧ Blk (wr.setCell ⟨kb, ko + q, none⟩ (.string ⟨#[115, 112, 111, 105, 108, 116]⟩)) w.heap.size 25 #[.int .i64 k, .int .i64 i, .string x, .slice a l.length c, .slice (some ⟨kb, ko, none⟩) ks.length c2] ∧ ∀ r y, q + 1 ≤ r → ks[r]? = some y → ∃ kb' ko', (some ⟨kb, ko, none⟩ : Option Addr) = some ⟨kb', ko', none⟩ ∧ inB lo hi (wr.setCell ⟨kb, ko + q, none⟩ (.string ⟨#[115, 112, 111, 105, 108, 116]⟩)) kb' ∧ (wr.setCell ⟨kb, ko + q, none⟩ (.string ⟨#[115, 112, 111, 105, 108, 116]⟩)).cell? ⟨kb', ko' + r, none⟩ = some (.string ⟨y.toArray⟩)) := by
                refine ⟨hK.out.1.set_ (p := ⟨kb, ko + q, none⟩) ⟨hkb, hkh⟩ _, hK.out.2.1.far (p := ⟨kb, ko + q, none⟩) (by simp; omega) _, fun r z hr hz => ?_⟩
                obtain ⟨kb', ko', he, _, hc'⟩ := hK.out.2.2 r z (by omega) hz
                injection he with he
                injection he with h1 h2
                subst h1; subst h2
                exact ⟨kb, ko, rfl, hin.set_, (hin.other (by omega) _).trans hc'⟩
              clear hin hy hK
              go_wp2_with fail
              go_roundw
              case rel => exact ⟨q + 1, by go_num, by omega, hnx⟩
              case measure => simp [intOf]; omega
            · obtain rfl : q = ks.length := by omega
              have hqf : decide ((ks.length : Int) < (ks.length : Int)) = false := by simp
              go_wp2_with fail
              simp [bodyPost, results, Try.results17, go_sem]
              exact hK.out.1
      · obtain rfl : j = l.length := by omega
        have hjf : decide ((l.length : Int) < (l.length : Int)) = false := by simp
        go_wp2_with fail
        go_loopw [5] (fun iv wr => ∃ q : Nat, iv = .int .i64 (q : Int) ∧ q ≤ ks.length ∧ Hid (Spoilt lo hi w wr ∧ Blk wr w.heap.size 25 #[.int .i64 k, .int .i64 i, .string x, .slice a l.length c, .slice a2 ks.length c2] ∧ ∀ r y, q ≤ r → ks[r]? = some y → ∃ kb ko, a2 = some ⟨kb, ko, none⟩ ∧ inB lo hi wr kb ∧ wr.cell? ⟨kb, ko + r, none⟩ = some (.string ⟨y.toArray⟩))) (fun iv _ => ks.length - (intOf iv).toNat)
        case atStart => exact ⟨0, rfl, Nat.zero_le _, hI.out.1.sp, hI.out.2, fun r y _ hy => by obtain ⟨kb, ko, h1, _, h2, h3⟩ := hI.out.1.keys r y hy; exact ⟨kb, ko, h1, h2, h3⟩⟩
        case round =>
          obtain ⟨q, rfl, hq, hK⟩ := hrel
          have p4 := hK.out.2.1.cell 4
          simp at p4
          have lb := hK.out.2.1.lt
          by_cases hql : q < ks.length
          · obtain ⟨y, hy⟩ : ∃ y, ks[q]? = some y := ⟨_, List.getElem?_eq_getElem hql⟩
            obtain ⟨kb, ko, rfl, hin, hc⟩ := hK.out.2.2 q y (Nat.le_refl _) hy
            have fz := hin.frozen (ko + q)
            have hqi : (q : Int) < (ks.length : Int) := by omega
            have hkb := hin.1; have hkh := hin.2.1
            have hnx : Hid (Spoilt lo hi w (wr.setCell ⟨kb, ko + q, none⟩ (.string ⟨#[115, 112, 111, 105, 108, 116]⟩)) ∧ Blk (wr.setCell ⟨kb, ko + q, none⟩ (.string ⟨#[115, 112, 111, 105, 108, 116]⟩)) w.heap.size 25 #[.int .i64 k, .int .i64 i, .string x, .slice a l.length c, .slice (some ⟨kb, ko, none⟩) ks.length c2] ∧ ∀ r y, q + 1 ≤ r → ks[r]? = some y → ∃ kb' ko', (some ⟨kb, ko, none⟩ : Option Addr) = some ⟨kb', ko', none⟩ ∧ inB lo hi (wr.setCell ⟨kb, ko + q, none⟩ (.string ⟨#[115, 112, 111, 105, 108, 116]⟩)) kb' ∧ (wr.setCell ⟨kb, ko + q, none⟩ (.string ⟨#[115, 112, 111, 105, 108, 116]⟩)).cell? ⟨kb', ko' + r, none⟩ = some (.string ⟨y.toArray⟩)) := by
              refine ⟨hK.out.1.set_ (p := ⟨kb, ko + q, none⟩) ⟨hkb, hkh⟩ _, hK.out.2.1.far (p := ⟨kb, ko + q, none⟩) (by simp; omega) _, fun r z hr hz => ?_⟩
              obtain ⟨kb', ko', he, _, hc'⟩ := hK.out.2.2 r z (by omega) hz
              injection he with he
              injection he with h1 h2
              subst h1; subst h2
              exact ⟨kb, ko, rfl, hin.set_, (hin.other (by omega) _).trans hc'⟩
            clear hin hy hK
            go_wp2_with fail
            go_roundw
            case rel => exact ⟨q + 1, by go_num, by omega, hnx⟩
            case measure => simp [intOf]; omega
          · obtain rfl : q = ks.length := by omega
            have hqf : decide ((ks.length : Int) < (ks.length : Int)) = false := by simp
            go_wp2_with fail
            simp [bodyPost, results, Try.results17, go_sem]
            exact hK.out.1
end Go.Proofs.Ytdnmgpidfjkiaaa
