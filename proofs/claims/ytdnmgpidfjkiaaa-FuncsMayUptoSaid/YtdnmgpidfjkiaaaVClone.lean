/-
  values.Clone: a value in memory of its own.
-/
import Derived.Test.YtdnmgpidfjkiaaaVOwn
import Derived.Test.YtdnmgpidfjkiaaaShelf
namespace Go.Proofs.Ytdnmgpidfjkiaaa
open Go.RowKit
set_option linter.unusedVariables false
set_option linter.unusedSimpArgs false

theorem cloneStrs_any (U : World → Nat → Prop) (a : Option Addr) (c : Nat) (ks : List (List UInt8)) (w : World) (h : StrsAt U w a ks) (hz : ks.length * 16 ≤ 140737488351232) :
    Calls Try.prog 35 #[.slice a ks.length c] w fun e w' => ∃ A5 c5, e = .returned (.slice A5 ks.length c5) ∧ StrsAt (freshB w.heap.size) w' A5 ks ∧ Below w.heap.size w w' := by
  cases a with
  | none =>
    obtain rfl : ks = [] := by
      cases ks with
      | nil => rfl
      | cons x ks => obtain ⟨_, _, h, _⟩ := h 0 x rfl; cases h
    refine (Try.slices_Clone_string_nil 0 c w).mono ?_
    rintro e w' ⟨rfl, hw⟩
    rw [hw]
    exact ⟨none, 0, rfl, fun j x hx => by simp at hx, Below.refl _ _⟩
  | some ad =>
    cases hks : ks with
    | nil =>
      refine (Try.slices_Clone_string_zero ad c w).mono ?_
      rintro e w' ⟨v', rfl, hown, _, hb⟩
      obtain ⟨A5, c5, rfl⟩ := own_sliceV hown
      exact ⟨A5, c5, rfl, fun j x hx => by simp at hx, hb⟩
    | cons y r =>
      rw [← hks]
      obtain ⟨b, off, he, _, _, _⟩ := h 0 y (by rw [hks]; rfl)
      injection he with he
      subst he
      have hc := Try.slices_Clone_string b off ks.length c (ks.map fun x => (⟨x.toArray⟩ : ByteArray)) w (by simp) (by omega) (by
        intro j hj
        have hj2 : j < ks.length := by simpa using hj
        obtain ⟨b2, off2, he, _, _, h2⟩ := h j ks[j] (List.getElem?_eq_getElem hj2)
        injection he with he
        injection he with h3 h4
        subst h3; subst h4
        rw [h2]
        simp [List.getD, hj2])
      refine hc.mono ?_
      rintro e w' ⟨v', rfl, hown, _, hb⟩
      have hx : ((ks.map fun x => (⟨x.toArray⟩ : ByteArray)).take ks.length).map Value.string = ks.map fun x => .string ⟨x.toArray⟩ := by
        rw [List.take_of_length_le (by simp)]; simp
      rw [hx] at hown
      obtain ⟨A5, c5, rfl⟩ := own_sliceV hown
      exact ⟨A5, c5, rfl, own_strs hown rfl (Nat.le_refl _), hb⟩
/-- Clone's boxes, and what is built. -/
structure CloneI (w wr : World) (n base : Nat) (k i : Int) (x : ByteArray) (a : Option Addr) (m c : Nat) (v : Value) (A5 : Option Addr) (c5 : Nat) (ks : List (List UInt8)) (es : List VF) (xs : List (VT n)) : Prop where
  bel : Below w.heap.size w wr
  bs : w.heap.size + 2 ≤ base
  b1 : Blk wr w.heap.size 25 #[.int .i64 k, .int .i64 i, .string x, .slice a m c, .slice A5 ks.length c5]
  b2 : Blk wr (w.heap.size + 1) 25 #[.int .i64 0, .int .i64 0, .string ⟨#[]⟩, .slice none 0 0, .slice none 0 0]
  keys : StrsAt (fun w' b => freshB (w.heap.size + 2) w' b ∧ b < base) wr A5 ks
  row : RowV n base wr v es xs
theorem strs_below {U : World → Nat → Prop} {w w' : World} {base N : Nat} {A : Option Addr} {ks : List (List UInt8)} (h : StrsAt (fun w' b => freshB N w' b ∧ b < base) w A ks) (hs : w.heap.size ≤ w'.heap.size) (hk : ∀ b, b < base → N ≤ b → b < w.heap.size → w'.heap[b]? = w.heap[b]?) : StrsAt (fun w' b => freshB N w' b ∧ b < base) w' A ks := by
  refine StrsAt.on (U := fun w' b => freshB N w' b ∧ b < base) h ⟨hs, ?_⟩
  rintro b hb ⟨⟨h1, cs, t, h2⟩, h3⟩
  exact ⟨hk b h3 h1 hb, ⟨h1, cs, t, (hk b h3 h1 hb).trans h2⟩, h3⟩
theorem CloneI.step {w wr wP wA w4 : World} {n base M g cap4 : Nat} {k i : Int} {x : ByteArray} {a : Option Addr} {m c : Nat} {v : Value} {A5 : Option Addr} {c5 : Nat} {ks : List (List UInt8)} {es : List VF} {xs : List (VT n)} {e : VF} {y : VT n}
    (h : CloneI w wr n base k i x a m c v A5 c5 ks es xs) (hP : Below wr.heap.size wr wP) (hV : IsV (freshB M) wP n e.val y) (hM : wr.heap.size ≤ M) (hbs : base ≤ wr.heap.size) (hA : Below wP.heap.size wP wA) (hg : wA.grownBy w4 v.ownBlock)
    (hown : w4.ownsRow base 25 5 (.slice (some ⟨g, 0, none⟩) (es.length + 1) cap4) (es.length + 1) (es.flatMap VF.cells ++ e.cells)) (hat : v.ownBlock = some g ∨ g = wA.heap.size) :
    CloneI w w4 n base k i x a m c (.slice (some ⟨g, 0, none⟩) (es.length + 1) cap4) A5 c5 ks (es ++ [e]) (xs ++ [y]) := by
  have hbs3 := h.bs
  have hPA := hP.trans (hA.mono hP.size)
  have l2 := h.b2.lt
  have hne : ∀ b, b < base → some b ≠ v.ownBlock := fun b hb e => by have := (h.row.own.lt b e.symm).1; omega
  have h1 := (h.b1.below hPA h.b1.lt).grown hg (hne _ (by omega))
  have h2 := (h.b2.below hPA h.b2.lt).grown hg (hne _ (by omega))
  have hrow := (h.row.below hP).snoc hV (fun k hk => Nat.lt_of_lt_of_le (h.row.own.lt k hk).2 hM) (by omega) hA hg hown hat
  have hbel : Below w.heap.size w w4 := (h.bel.trans (hPA.mono h.bel.size)).grown hg (by have := hPA.size; omega) (fun b hb => by have := (h.row.own.lt b hb).1; omega)
  refine ⟨hbel, hbs3, h1, h2, ?_, hrow⟩
  exact strs_below (U := anyB) h.keys (Nat.le_trans hPA.size hg.size) fun b h1 h2 h3 => (hg.block b (Nat.lt_of_lt_of_le h3 hPA.size) (hne b h1)).trans (hPA.block b h3)
theorem CloneI.below {w wr w' : World} {n base : Nat} {k i : Int} {x : ByteArray} {a : Option Addr} {m c : Nat} {v : Value} {A5 : Option Addr} {c5 : Nat} {ks : List (List UInt8)} {es : List VF} {xs : List (VT n)}
    (h : CloneI w wr n base k i x a m c v A5 c5 ks es xs) (hb : Below wr.heap.size wr w') : CloneI w w' n base k i x a m c v A5 c5 ks es xs :=
  ⟨h.bel.trans (hb.mono h.bel.size), h.bs, h.b1.below hb h.b1.lt, h.b2.below hb h.b2.lt, strs_below (U := anyB) h.keys hb.size fun b _ _ h3 => hb.block b h3, h.row.below hb⟩
theorem CloneI.done {w wr : World} {n base : Nat} {k i : Int} {s : List UInt8} {a : Option Addr} {m c : Nat} {A0 : Option Addr} {cp : Nat} {A5 : Option Addr} {c5 : Nat} {ks : List (List UInt8)} {es : List VF} {xs : List (VT n)}
    (h : CloneI w wr n base k i ⟨s.toArray⟩ a m c (.slice A0 xs.length cp) A5 c5 ks es xs) (u v0 v1 v2 v3 v4 : Value) :
    IsV (freshB w.heap.size) (set5 (wr.setCell ⟨w.heap.size, 3, none⟩ u) (w.heap.size + 1) v0 v1 v2 v3 v4) (n + 1) (valV k i ⟨s.toArray⟩ A0 xs.length cp A5 ks.length c5) (⟨k, i, s, xs, ks⟩ : VN (VT n)) ∧ Below w.heap.size w (set5 (wr.setCell ⟨w.heap.size, 3, none⟩ u) (w.heap.size + 1) v0 v1 v2 v3 v4) ∧ Blk (set5 (wr.setCell ⟨w.heap.size, 3, none⟩ u) (w.heap.size + 1) v0 v1 v2 v3 v4) (w.heap.size + 1) 25 #[v0, v1, v2, v3, v4] := by
  have hbs := h.bs
  refine ⟨?_, set5_below (h.bel.setCell (p := ⟨w.heap.size, 3, none⟩) (by simp) u) (by omega) _ _ _ _ _, set5_blk (h.b2.far (p := ⟨w.heap.size, 3, none⟩) (by simp) u) _ _ _ _ _⟩
  have hst : Stays (freshB (w.heap.size + 2)) (freshB w.heap.size) wr (set5 (wr.setCell ⟨w.heap.size, 3, none⟩ u) (w.heap.size + 1) v0 v1 v2 v3 v4) := by
    refine ⟨by rw [set5_size]; simp, ?_⟩
    rintro b hb ⟨h1, cs, t, h2⟩
    have he := (set5_heap (wr.setCell ⟨w.heap.size, 3, none⟩ u) (w.heap.size + 1) v0 v1 v2 v3 v4 b (by omega)).trans (Below.heap_setCell wr ⟨w.heap.size, 3, none⟩ u b (by simp; omega))
    exact ⟨he, by omega, cs, t, he.trans h2⟩
  refine IsV.made (d := (⟨k, i, s, xs, ks⟩ : VN (VT n))) ?_ ?_
  · exact StrsAt.on (StrsAt.on (w' := wr) h.keys ⟨Nat.le_refl _, fun b _ hu => ⟨rfl, hu.1⟩⟩) hst
  · exact (h.row.vals (N := w.heap.size + 2) rfl hbs).on hst (IsV.on hst n)
set_option maxHeartbeats 4000000 in
set_option maxRecDepth 100000 in
theorem clone_any : ∀ (n : Nat) (U : World → Nat → Prop) (hU : ∀ w w' b, Below w.heap.size w w' → b < w.heap.size → U w b → U w' b) (v : Value) (d : VT n) (w : World), IsV U w n v d → SmallV n d →
    Calls Try.prog 14 #[v] w fun e w' => ∃ v', e = .returned v' ∧ IsV (freshB w.heap.size) w' n v' d ∧ Below w.heap.size w w' := by
  intro n
  induction n with
  | zero => intro U _ v d w h; exact h.elim
  | succ n ih =>
    intro U hU v d w h hsm
    obtain ⟨k, i, s, l, ks⟩ := d
    obtain ⟨a, c, b, e, rfl, hS, hL⟩ := h.parts
    obtain ⟨_, hz2, hz3, _, hz5⟩ := hsm
    have hz2 : l.length * 80 ≤ 140737488351232 := hz2
    have hz3 : ks.length * 16 ≤ 140737488351232 := hz3
    have hz5 : ∀ x ∈ l, SmallV n x := hz5
    simp only at hS hL ⊢
    clear h
    obtain ⟨x, hx⟩ : ∃ x : ByteArray, (⟨s.toArray⟩ : ByteArray) = x := ⟨_, rfl⟩
    rw [hx]
    obtain ⟨j0, hj, hv0, hv1, hv2⟩ := info_parts info_val
    obtain ⟨W, hW⟩ : ∃ W, (w.alloc (.cells #[.int .i64 k, .int .i64 i, .string x, .slice a l.length c, .slice b ks.length e] 25)).alloc (.cells #[.int .i64 0, .int .i64 0, .string ⟨#[]⟩, .slice none 0 0, .slice none 0 0] 25) = W := ⟨_, rfl⟩
    have hBW : Below w.heap.size w W := by rw [← hW]; exact ((Below.refl _ _).alloc (Nat.le_refl _) _).alloc (by simp) _
    have K1 : Blk W w.heap.size 25 #[.int .i64 k, .int .i64 i, .string x, .slice a l.length c, .slice b ks.length e] := by
      rw [← hW]; exact (Blk.new w _ _).alloc _
    have K2 : Blk W (w.heap.size + 1) 25 #[.int .i64 0, .int .i64 0, .string ⟨#[]⟩, .slice none 0 0, .slice none 0 0] := by
      rw [← hW]
      have := Blk.new (w.alloc (.cells #[.int .i64 k, .int .i64 i, .string x, .slice a l.length c, .slice b ks.length e] 25)) 25 #[.int .i64 0, .int .i64 0, .string ⟨#[]⟩, .slice none 0 0, .slice none 0 0]
      simpa using this
    have cK := hide (cloneStrs_any U b e ks W (hS.on (Stays.of_below hBW fun b h => hU _ _ b hBW h)) hz3)
    have HL := hide hL; have HX := hide hx; have HZ5 := hide hz5
    have HW := hide hW
    have l2 := K2.lt
    have HK := hide (And.intro K1 (And.intro K2 hBW))
    clear hS hL hx hz5 hW K1 K2 hBW
    go_enter Try.func14, Try.ntmps14
    go_wp2_with fail
    rw [HW.out]
    refine (cK.out).mono ?_
    rintro e' w1 ⟨A5, c5, rfl, hS1, hb1⟩
    obtain ⟨K1, K2, hBW⟩ := HK.out
    have K11 := K1.below hb1 K1.lt
    have c14 := K11.cell 4; have f14 := K11.frozen 4; have c13 := K11.cell 3
    simp at c14 c13
    have HK1 := hide (And.intro K11 (And.intro (K2.below hb1 K2.lt) (And.intro (hBW.trans (hb1.mono hBW.size)) hb1)))
    have HS1 := hide hS1
    clear K1 K2 hBW K11 hS1
    have hz1 := hb1.size
    clear hb1
    go_wp2_with (at_make; refine wpList_make_own _ rfl _ _ 22 rfl w1.heap.size 25 j0 (.agg #[.int .i64 0, .int .i64 0, .string ⟨#[]⟩, .slice none 0 0, .slice none 0 0]) 5 Try.underlying22 hj hv0 hv1 .i64 .i64 _ l.length rfl rfl rfl (by rw [hv2]; omega) (by unfold maxLen; omega) (by simp) ?_; intro w2 hown2 hgrow2; have K12 := (HK1.out.1.set_ 4 (.slice A5 ks.length c5)).grown hgrow2 (by simp); have c13 := K12.cell 3; simp at c13)
    have hI : Hid (CloneI w w2 n w1.heap.size k i x a l.length c (.slice (some ⟨w1.heap.size, 0, none⟩) 0 l.length) A5 c5 ks [] []) := by
      obtain ⟨K11, K21, hB1, hb1⟩ := HK1.out
      have hz1 := hb1.size
      simp at K12
      have hbel : Below w.heap.size w w2 := (hB1.setCell (p := ⟨w.heap.size, 4, none⟩) (by simp) (.slice A5 ks.length c5)).grown hgrow2 (by simp; omega) (fun k e => by cases e)
      have hsz := hgrow2.size
      simp only [World.size_setCell] at hsz
      refine ⟨hbel, by omega, K12, (K21.far (p := ⟨w.heap.size, 4, none⟩) (by simp) _).grown hgrow2 (by simp), ?_, RowV.made (by simpa using hown2)⟩
      refine StrsAt.on (U := freshB W.heap.size) HS1.out ⟨hsz, ?_⟩
      rintro b hb ⟨h1, cs, t, h2⟩
      have he := (hgrow2.block b (by simpa using hb) (by simp)).trans (Below.heap_setCell w1 ⟨w.heap.size, 4, none⟩ (.slice A5 ks.length c5) b (by simp; omega))
      exact ⟨he, ⟨by omega, cs, t, he.trans h2⟩, hb⟩
    have hz2 : w1.heap.size ≤ w2.heap.size := by have := hgrow2.size; simpa using this
    clear K12 hgrow2 hown2 HK1 HS1 c14 f14 c13
    go_loopw [3, 17] (fun ov iv wr => ∃ (j : Nat) (A0 : Option Addr) (cp : Nat) (es : List VF) (xs : List (VT n)), iv = .int .i64 (j : Int) ∧ ov = .slice A0 j cp ∧ j ≤ l.length ∧ xs.length = j ∧ w1.heap.size ≤ wr.heap.size ∧ Hid (xs = l.take j) ∧ Hid (CloneI w wr n w1.heap.size k i x a l.length c (.slice A0 xs.length cp) A5 c5 ks es xs)) (fun _ iv _ => l.length - (intOf iv).toNat)
    case atStart => exact ⟨0, _, _, [], [], rfl, rfl, Nat.zero_le _, rfl, hz2, rfl, hI⟩
    case round =>
      obtain ⟨j, A0, cp, es, xs, rfl, rfl, hjl, hxl, hwz, hxs, hI⟩ := hrel
      have bel := hI.out.bel
      by_cases hlt : j < l.length
      · obtain ⟨y, hy⟩ : ∃ y, l[j]? = some y := ⟨_, List.getElem?_eq_getElem hlt⟩
        have hstay : Stays U U w wr := Stays.of_below bel fun b h => hU _ _ b bel h
        obtain ⟨g, o, rfl, hg, _, k2, i2, s2, a1, n1, d1, a2, n2, d2, ⟨f0, f1, f2, f3, f4⟩, hV⟩ := (HL.out.on (R' := IsV U wr n) hstay (IsV.on hstay n)) j y hy
        have cO := hide (fun W' (h : Below wr.heap.size wr W') => ih U hU _ y W' (IsV.on (Stays.of_below h fun b hh => hU _ _ b h hh) n _ _ hV) (HZ5.out y (List.mem_of_getElem? hy)))
        have hji : (j : Int) < (l.length : Int) := by omega
        have hel : es.length = j := by rw [hI.out.row.len, hxl]
        have hnx := hide (show xs ++ [y] = l.take (j + 1) by rw [hxs.out, List.take_add_one, hy]; rfl)
        clear hV hstay hy bel
        go_wp2_with fail
        refine (cO.out _ ((Below.refl _ _).alloc (Nat.le_refl _) _)).mono ?_
        rintro e' wP ⟨v', rfl, hVP, hbP⟩
        obtain ⟨ev, rfl⟩ := hVP.shape
        have hBP := hide (((Below.refl wr.heap.size wr).alloc (Nat.le_refl _) (.cells #[.int .i64 k2, .int .i64 i2, .string s2, .slice a1 n1 d1, .slice a2 n2 d2] 25)).trans (hbP.mono (by simp)))
        have hIP := hide (hI.out.below hBP.out)
        have HVP := hide hVP
        have hownP := hIP.out.row.own
        rw [hel, hxl] at hownP
        have hPz := hBP.out.size
        clear hVP hbP
        go_wp2_with (at_builtin; refine wpList_append_lies _ rfl _ _ 22 rfl w1.heap.size 25 j0 (.agg #[.int .i64 0, .int .i64 0, .string ⟨#[]⟩, .slice none 0 0, .slice none 0 0]) 5 80 Try.underlying22 hj hv0 hv1 hv2 rfl (by decide) (.slice A0 j cp) j _ rfl (hownP.alloc _) ⟨wP.heap.size, 0, none⟩ 1 1 ev.cells rfl rfl (by intro t u ht; match t, ht with | 0, ht => (simp [VF.cells] at ht; subst ht; simp [Addr.add]) | 1, ht => (simp [VF.cells] at ht; subst ht; simp [Addr.add]) | 2, ht => (simp [VF.cells] at ht; subst ht; simp [Addr.add]) | 3, ht => (simp [VF.cells] at ht; subst ht; simp [Addr.add]) | 4, ht => (simp [VF.cells] at ht; subst ht; simp [Addr.add])) (by intro u hu; simp [VF.cells] at hu; rcases hu with rfl | rfl | rfl | rfl | rfl <;> rfl) (by omega) (by unfold maxLen; omega) (by omega) (by simp; omega) _ rfl ?_)
        intro g4 cp4 w4 hown4 hgrow4 hat4 hlt4
        have hIn := hide (hI.out.step hBP.out HVP.out (by simp) hwz ((Below.refl wP.heap.size wP).alloc (Nat.le_refl _) _) (by rw [hxl]; exact hgrow4) (by rw [hel]; exact hown4) (by rw [hxl, World.size_alloc]; exact hat4))
        rw [hel] at hIn
        have hz4 := hgrow4.size
        simp only [World.size_alloc] at hz4
        clear hown4 hgrow4 hat4 hownP
        go_wp2_with fail
        go_roundw
        case rel => exact ⟨j + 1, _, _, _, _, by go_num, rfl, by omega, by simp [hxl], by omega, hnx.out, hide (by simpa [hxl] using hIn.out)⟩
        case measure => simp [intOf]; omega
      · obtain rfl : j = l.length := by omega
        have hif : decide ((l.length : Int) < (l.length : Int)) = false := by simp
        have hxe : xs = l := by rw [hxs.out, List.take_length]
        subst hxe
        have p0 := hI.out.b1.cell 0; have p1 := hI.out.b1.cell 1; have p2 := hI.out.b1.cell 2; have p3 := hI.out.b1.cell 3; have p4 := hI.out.b1.cell 4
        have z3 := hI.out.b1.frozen 3
        have o0 := hI.out.b2.cell 0; have o1 := hI.out.b2.cell 1; have o2 := hI.out.b2.cell 2; have o3 := hI.out.b2.cell 3; have o4 := hI.out.b2.cell 4
        have y0 := hI.out.b2.frozen 0; have y1 := hI.out.b2.frozen 1; have y2 := hI.out.b2.frozen 2; have y3 := hI.out.b2.frozen 3; have y4 := hI.out.b2.frozen 4
        simp at p0 p1 p2 p3 p4 o0 o1 o2 o3 o4
        have hDn := hide (fun u v0 v1 v2 v3 v4 => (show CloneI w wr n w1.heap.size k i ⟨s.toArray⟩ a _ c (.slice A0 xs.length cp) A5 c5 ks es xs by rw [HX.out]; exact hI.out).done u v0 v1 v2 v3 v4)
        go_wp2_with fail
        obtain ⟨hV5, hb5, hK5⟩ := hDn.out (.slice A0 xs.length cp) (.int .i64 k) (.int .i64 i) (.string x) (.slice A0 xs.length cp) (.slice A5 ks.length c5)
        rw [HX.out] at hV5
        unfold set5 at hV5 hb5 hK5
        clear p0 p1 p2 p3 p4 z3 o0 o1 o2 o3 o4 y0 y1 y2 y3 y4
        generalize (((((wr.setCell ⟨w.heap.size, 3, none⟩ (.slice A0 xs.length cp)).setCell ⟨w.heap.size + 1, 0, none⟩ (.int .i64 k)).setCell ⟨w.heap.size + 1, 1, none⟩ (.int .i64 i)).setCell ⟨w.heap.size + 1, 2, none⟩ (.string x)).setCell ⟨w.heap.size + 1, 3, none⟩ (.slice A0 xs.length cp)).setCell ⟨w.heap.size + 1, 4, none⟩ (.slice A5 ks.length c5) = w5 at hV5 hb5 hK5 ⊢
        have r0 := hK5.cell 0; have r1 := hK5.cell 1; have r2 := hK5.cell 2; have r3 := hK5.cell 3; have r4 := hK5.cell 4
        simp at r0 r1 r2 r3 r4
        have HV5 := hide hV5; have HB5 := hide hb5
        clear hV5 hb5
        simp [bodyPost, results, Try.results14, go_sem, r0, r1, r2, r3, r4]
        exact ⟨HV5.out, HB5.out⟩
end Go.Proofs.Ytdnmgpidfjkiaaa
