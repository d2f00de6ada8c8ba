/-
  The page's Own: a value in memory of its own.
-/
import Derived.Test.YtdnmgpidfjkiaaaDoorVRow
import Derived.Test.YtdnmgpidfjkiaaaDoorBytes
import Derived.OwnWalk
namespace Go.Proofs.YtdnmgpidfjkiaaaDoor
open Go.RowKit
set_option linter.unusedVariables false
set_option linter.unusedSimpArgs false

/-- Own's boxes, and what is built. -/
structure OwnI (w wr : World) (n base : Nat) (bx : Array Value) (k i : Int) (x : ByteArray) (A0 : Option Addr) (cp : Nat) (A5 : Option Addr) (c5 : Nat) (ks : List (List UInt8)) (es : List VF) (xs : List (VT n)) : Prop where
  bel : Below w.heap.size w wr
  bs : w.heap.size + 3 ≤ base
  b1 : Blk wr w.heap.size 26 bx
  b2 : Blk wr (w.heap.size + 1) 26 #[.int .i64 0, .int .i64 0, .string ⟨#[]⟩, .slice none 0 0, .slice none 0 0]
  b3 : Blk wr (w.heap.size + 1 + 1) 26 #[.int .i64 k, .int .i64 i, .string x, .slice A0 xs.length cp, .slice A5 ks.length c5]
  keys : StrsAt (fun w' b => freshB (w.heap.size + 3) w' b ∧ b < base) wr A5 ks
  row : RowV n base wr (.slice A0 xs.length cp) es xs
theorem OwnI.step {w wr wP wA w4 : World} {n base M g cap4 : Nat} {bx : Array Value} {k i : Int} {x : ByteArray} {A0 : Option Addr} {cp : Nat} {A5 : Option Addr} {c5 : Nat} {ks : List (List UInt8)} {es : List VF} {xs : List (VT n)} {e : VF} {y : VT n}
    (h : OwnI w wr n base bx k i x A0 cp A5 c5 ks es xs) (hP : Below wr.heap.size wr wP) (hV : IsV (freshB M) wP n e.val y) (hM : wr.heap.size ≤ M) (hbs : base ≤ wr.heap.size) (hA : Below wP.heap.size wP wA) (hg : wA.grownBy w4 (Value.slice A0 xs.length cp).ownBlock)
    (hown : w4.ownsRow base 26 5 (.slice (some ⟨g, 0, none⟩) (es.length + 1) cap4) (es.length + 1) (es.flatMap VF.cells ++ e.cells)) (hat : (Value.slice A0 xs.length cp).ownBlock = some g ∨ g = wA.heap.size) :
    OwnI w (w4.setCell ⟨w.heap.size + 1 + 1, 3, none⟩ (.slice (some ⟨g, 0, none⟩) (es.length + 1) cap4)) n base bx k i x (some ⟨g, 0, none⟩) cap4 A5 c5 ks (es ++ [e]) (xs ++ [y]) := by
  have hbs3 := h.bs
  have hPA := hP.trans (hA.mono hP.size)
  have l3 := h.b3.lt
  have hne : ∀ b, b < w.heap.size + 3 → some b ≠ (Value.slice A0 xs.length cp).ownBlock := fun b hb e => by have := (h.row.own.lt b e.symm).1; omega
  have h1 := (h.b1.below hPA h.b1.lt).grown hg (hne _ (by omega))
  have h2 := (h.b2.below hPA h.b2.lt).grown hg (hne _ (by omega))
  have h3 := ((h.b3.below hPA h.b3.lt).grown hg (hne _ (by omega))).set_ 3 (.slice (some ⟨g, 0, none⟩) (es.length + 1) cap4)
  have hrow := (h.row.below hP).snoc hV (fun k hk => Nat.lt_of_lt_of_le (h.row.own.lt k hk).2 hM) (by omega) hA hg hown hat
  have hbel : Below w.heap.size w w4 := (h.bel.trans (hPA.mono h.bel.size)).grown hg (by have := hPA.size; omega) (fun b hb => by have := (h.row.own.lt b hb).1; omega)
  refine ⟨hbel.setCell (p := ⟨w.heap.size + 1 + 1, 3, none⟩) (by simp; omega) _, hbs3, h1.far (p := ⟨w.heap.size + 1 + 1, 3, none⟩) (by simp <;> omega) _, h2.far (p := ⟨w.heap.size + 1 + 1, 3, none⟩) (by simp <;> omega) _, ?_, ?_, ?_⟩
  · simp at h3
    have : (xs ++ [y]).length = es.length + 1 := by simp [h.row.len]
    rw [this]
    exact h3
  · refine StrsAt.on (U := fun w' b => freshB (w.heap.size + 3) w' b ∧ b < base) h.keys ⟨by simp; exact Nat.le_trans hPA.size hg.size, ?_⟩
    rintro b hb ⟨⟨h1, cs, t, h2⟩, h3⟩
    have hn : some b ≠ (Value.slice A0 xs.length cp).ownBlock := fun e => by have := (h.row.own.lt b e.symm).1; omega
    have hk : (w4.setCell ⟨w.heap.size + 1 + 1, 3, none⟩ (.slice (some ⟨g, 0, none⟩) (es.length + 1) cap4)).heap[b]? = wr.heap[b]? :=
      (Below.heap_setCell w4 ⟨w.heap.size + 1 + 1, 3, none⟩ _ b (by simp; omega)).trans ((hg.block b (Nat.lt_of_lt_of_le hb hPA.size) hn).trans (hPA.block b hb))
    exact ⟨hk, ⟨h1, cs, t, hk.trans h2⟩, h3⟩
  · have : (xs ++ [y]).length = es.length + 1 := by simp [h.row.len]
    rw [this]
    exact hrow.set_ (p := ⟨w.heap.size + 1 + 1, 3, none⟩) (by simp; omega) _
/-- A value stored in a box. -/
abbrev set5 (w : World) (b : Nat) (v0 v1 v2 v3 v4 : Value) : World := ((((w.setCell ⟨b, 0, none⟩ v0).setCell ⟨b, 1, none⟩ v1).setCell ⟨b, 2, none⟩ v2).setCell ⟨b, 3, none⟩ v3).setCell ⟨b, 4, none⟩ v4
theorem set5_heap (w : World) (b : Nat) (v0 v1 v2 v3 v4 : Value) (j : Nat) (h : j ≠ b) : (set5 w b v0 v1 v2 v3 v4).heap[j]? = w.heap[j]? := by
  unfold set5
  rw [Below.heap_setCell _ _ _ j h, Below.heap_setCell _ _ _ j h, Below.heap_setCell _ _ _ j h, Below.heap_setCell _ _ _ j h, Below.heap_setCell _ _ _ j h]
theorem set5_size (w : World) (b : Nat) (v0 v1 v2 v3 v4 : Value) : (set5 w b v0 v1 v2 v3 v4).heap.size = w.heap.size := by simp [set5]
theorem set5_below {B : Nat} {a w : World} (hb : Below B a w) {b : Nat} (h : B ≤ b) (v0 v1 v2 v3 v4 : Value) : Below B a (set5 w b v0 v1 v2 v3 v4) :=
  ((((hb.setCell (p := ⟨b, 0, none⟩) h v0).setCell (p := ⟨b, 1, none⟩) h v1).setCell (p := ⟨b, 2, none⟩) h v2).setCell (p := ⟨b, 3, none⟩) h v3).setCell (p := ⟨b, 4, none⟩) h v4
theorem set5_blk {w : World} {b : Nat} {t : TypeId} {u0 u1 u2 u3 u4 : Value} (h : Blk w b t #[u0, u1, u2, u3, u4]) (v0 v1 v2 v3 v4 : Value) : Blk (set5 w b v0 v1 v2 v3 v4) b t #[v0, v1, v2, v3, v4] := by
  have := ((((h.set_ 0 v0).set_ 1 v1).set_ 2 v2).set_ 3 v3).set_ 4 v4
  simpa using this
theorem OwnI.done {w wr : World} {n base : Nat} {bx : Array Value} {k i : Int} {s : List UInt8} {A0 : Option Addr} {cp : Nat} {A5 : Option Addr} {c5 : Nat} {ks : List (List UInt8)} {es : List VF} {xs : List (VT n)}
    (h : OwnI w wr n base bx k i ⟨s.toArray⟩ A0 cp A5 c5 ks es xs) (v0 v1 v2 v3 v4 : Value) :
    IsV (freshB w.heap.size) (set5 wr (w.heap.size + 1) v0 v1 v2 v3 v4) (n + 1) (valV k i ⟨s.toArray⟩ A0 xs.length cp A5 ks.length c5) (⟨k, i, s, xs, ks⟩ : VN (VT n)) ∧ Below w.heap.size w (set5 wr (w.heap.size + 1) v0 v1 v2 v3 v4) ∧ Blk (set5 wr (w.heap.size + 1) v0 v1 v2 v3 v4) (w.heap.size + 1) 26 #[v0, v1, v2, v3, v4] := by
  have hbs := h.bs
  refine ⟨?_, set5_below h.bel (by omega) _ _ _ _ _, set5_blk h.b2 _ _ _ _ _⟩
  have hst : Stays (freshB (w.heap.size + 3)) (freshB w.heap.size) wr (set5 wr (w.heap.size + 1) v0 v1 v2 v3 v4) := by
    refine ⟨by rw [set5_size]; exact Nat.le_refl _, ?_⟩
    rintro b hb ⟨h1, cs, t, h2⟩
    have he := set5_heap wr (w.heap.size + 1) v0 v1 v2 v3 v4 b (by omega)
    exact ⟨he, by omega, cs, t, he.trans h2⟩
  refine IsV.made (d := (⟨k, i, s, xs, ks⟩ : VN (VT n))) ?_ ?_
  · exact StrsAt.on (StrsAt.on (w' := wr) h.keys ⟨Nat.le_refl _, fun b _ hu => ⟨rfl, hu.1⟩⟩) hst
  · exact (h.row.vals (N := w.heap.size + 3) rfl hbs).on hst (IsV.on hst n)
set_option maxHeartbeats 4000000 in
set_option maxRecDepth 100000 in
theorem own_any : ∀ (n : Nat) (U : World → Nat → Prop) (hU : ∀ w w' b, Below w.heap.size w w' → b < w.heap.size → U w b → U w' b) (v : Value) (d : VT n) (w : World), IsV U w n v d → SmallV n d →
    Calls Tryd.prog 16 #[v] w fun e w' => ∃ v', e = .returned v' ∧ IsV (freshB w.heap.size) w' n v' d ∧ Below w.heap.size w w' := by
  intro n
  induction n with
  | zero => intro U _ v d w h; exact h.elim
  | succ n ih =>
    intro U hU v d w h hsm
    obtain ⟨k, i, s, l, ks⟩ := d
    obtain ⟨a, c, b, e, rfl, hS, hL⟩ := h.parts
    obtain ⟨_, hz2, hz3, _, hz5⟩ := hsm
    have hz2 : l.length * 80 ≤ 140737488351232 := hz2
    have hz3 : ks.length * 16 ≤ 140737488351232 := hz3
    have hz5 : ∀ x ∈ l, SmallV n x := hz5
    simp only at hS hL ⊢
    clear h
    obtain ⟨x, hx⟩ : ∃ x : ByteArray, (⟨s.toArray⟩ : ByteArray) = x := ⟨_, rfl⟩
    rw [hx]
    obtain ⟨i0, hi, hy0, hy1, hy2⟩ := info_parts info_strV
    obtain ⟨j0, hj, hv0, hv1, hv2⟩ := info_parts info_val
    obtain ⟨W, hW⟩ : ∃ W, ((w.alloc (.cells #[.int .i64 k, .int .i64 i, .string x, .slice a l.length c, .slice b ks.length e] 26)).alloc (.cells #[.int .i64 0, .int .i64 0, .string ⟨#[]⟩, .slice none 0 0, .slice none 0 0] 26)).alloc (.cells #[.int .i64 k, .int .i64 i, .string x, .slice none 0 0, .slice none 0 0] 26) = W := ⟨_, rfl⟩
    have hBW : Below w.heap.size w W := by rw [← hW]; exact (((Below.refl _ _).alloc (Nat.le_refl _) _).alloc (by simp) _).alloc (by simp; omega) _
    have K1 : Blk W w.heap.size 26 #[.int .i64 k, .int .i64 i, .string x, .slice a l.length c, .slice b ks.length e] := by
      rw [← hW]; exact ((Blk.new w _ _).alloc _).alloc _
    have K2 : Blk W (w.heap.size + 1) 26 #[.int .i64 0, .int .i64 0, .string ⟨#[]⟩, .slice none 0 0, .slice none 0 0] := by
      rw [← hW]
      have := (Blk.new (w.alloc (.cells #[.int .i64 k, .int .i64 i, .string x, .slice a l.length c, .slice b ks.length e] 26)) 26 #[.int .i64 0, .int .i64 0, .string ⟨#[]⟩, .slice none 0 0, .slice none 0 0]).alloc (.cells #[.int .i64 k, .int .i64 i, .string x, .slice none 0 0, .slice none 0 0] 26)
      simpa using this
    have K3 : Blk W (w.heap.size + 1 + 1) 26 #[.int .i64 k, .int .i64 i, .string x, .slice none 0 0, .slice none 0 0] := by
      rw [← hW]
      have := Blk.new ((w.alloc (.cells #[.int .i64 k, .int .i64 i, .string x, .slice a l.length c, .slice b ks.length e] 26)).alloc (.cells #[.int .i64 0, .int .i64 0, .string ⟨#[]⟩, .slice none 0 0, .slice none 0 0] 26)) 26 #[.int .i64 k, .int .i64 i, .string x, .slice none 0 0, .slice none 0 0]
      simpa using this
    have hSW := hide (hS.on (Stays.of_below hBW fun b h => hU _ _ b hBW h))
    have HL := hide hL; have HX := hide hx; have HZ5 := hide hz5
    have HW := hide hW
    have l3 := K3.lt
    clear hS hL hx hz5 hW
    rcases b with _ | ad
    · obtain rfl : ks = [] := by
        cases ks with
        | nil => rfl
        | cons x ks => obtain ⟨_, _, h, _⟩ := hSW.out 0 x rfl; cases h
      simp only [List.length_nil] at K1
      have hI : Hid (OwnI w W n W.heap.size #[.int .i64 k, .int .i64 i, .string x, .slice a l.length c, .slice none 0 e] k i x none 0 none 0 [] [] []) :=
        ⟨hBW, by omega, K1, K2, K3, fun j y hy => by simp at hy, RowV.nil _ _ _⟩
      have hw2 := HW.out
      simp only [List.length_nil] at hw2
      have HW2 := hide hw2
      clear K1 K2 K3 hBW hw2
      go_enter Tryd.func16, Tryd.ntmps16
      go_wp2_with fail
      rw [HW2.out]
      go_loopw [4] (fun iv wr => ∃ (j : Nat) (A0 : Option Addr) (cp : Nat) (es : List VF) (xs : List (VT n)), iv = .int .i64 (j : Int) ∧ j ≤ l.length ∧ xs.length = j ∧ W.heap.size ≤ wr.heap.size ∧ Hid (xs = l.take j) ∧ Hid (OwnI w wr n W.heap.size #[.int .i64 k, .int .i64 i, .string x, .slice a l.length c, .slice none 0 e] k i x A0 cp none 0 [] es xs)) (fun iv _ => l.length - (intOf iv).toNat)
      case atStart => exact ⟨0, _, _, [], [], rfl, Nat.zero_le _, rfl, Nat.le_refl _, rfl, hI⟩
      case round =>
        obtain ⟨j, A0, cp, es, xs, rfl, hjl, hxl, hwz, hxs, hI⟩ := hrel
        have bel := hI.out.bel
        have p3 := hI.out.b1.cell 3
        have q3 := hI.out.b3.cell 3
        have zq3 := hI.out.b3.frozen 3
        simp at p3 q3
        rw [hxl] at q3
        have zn := hI.out.b3.lt
        have hbs := hI.out.bs
        by_cases hlt : j < l.length
        · obtain ⟨y, hy⟩ : ∃ y, l[j]? = some y := ⟨_, List.getElem?_eq_getElem hlt⟩
          have hstay : Stays U U w wr := Stays.of_below bel fun b h => hU _ _ b bel h
          obtain ⟨g, o, rfl, hg, _, k2, i2, s2, a1, n1, d1, a2, n2, d2, ⟨f0, f1, f2, f3, f4⟩, hV⟩ := (HL.out.on (R' := IsV U wr n) hstay (IsV.on hstay n)) j y hy
          have cO := hide (fun W' (h : Below wr.heap.size wr W') => ih U hU _ y W' (IsV.on (Stays.of_below h fun b hh => hU _ _ b h hh) n _ _ hV) (HZ5.out y (List.mem_of_getElem? hy)))
          have hji : (j : Int) < (l.length : Int) := by omega
          have hel : es.length = j := by rw [hI.out.row.len, hxl]
          have hown := hI.out.row.own
          rw [hel, hxl] at hown
          have hnx := hide (show xs ++ [y] = l.take (j + 1) by rw [hxs.out, List.take_add_one, hy]; rfl)
          have hI3 := hide hI.out.b3
          have hne : some (w.heap.size + 1 + 1) ≠ (Value.slice A0 j cp).ownBlock := fun e => by have := (hown.lt _ e.symm).1; omega
          clear hV hstay hy bel
          go_wp2_with fail
          go_region_law (first
            | (refine step_append_lies _ rfl (.tmp 26) (.tmp 33) 23 rfl W.heap.size 26 j0 (.agg #[.int .i64 0, .int .i64 0, .string ⟨#[]⟩, .slice none 0 0, .slice none 0 0]) 5 80 Tryd.underlying23 hj hv0 hv1 hv2 rfl (by decide) (.slice A0 j cp) j _ (by simp [Act.eval, Act.put]) (hownP.alloc _) ⟨wP.heap.size, 0, none⟩ 1 1 ev.cells (by simp [Act.eval, Act.put]) rfl (by intro t u ht; match t, ht with | 0, ht => (simp [VF.cells] at ht; subst ht; simp [Addr.add]) | 1, ht => (simp [VF.cells] at ht; subst ht; simp [Addr.add]) | 2, ht => (simp [VF.cells] at ht; subst ht; simp [Addr.add]) | 3, ht => (simp [VF.cells] at ht; subst ht; simp [Addr.add]) | 4, ht => (simp [VF.cells] at ht; subst ht; simp [Addr.add])) (by intro u hu; simp [VF.cells] at hu; rcases hu with rfl | rfl | rfl | rfl | rfl <;> rfl) (by omega) (by unfold maxLen; omega) (by omega) (by simp; omega) _ rfl ?_; intro g4 cp4 w4 hown4 hgrow4 hat4 hlt4; have hb3 : Blk w4 (w.heap.size + 1 + 1) 26 #[.int .i64 k, .int .i64 i, .string x, .slice A0 xs.length cp, .slice none 0 0] := (HP3.out.alloc _).grown hgrow4 hne; have zz3 := hb3.frozen 3; have qq3 := hb3.cell 3; have l4 := hb3.lt; simp at qq3)
            | (go_simp; go_at_call 16; refine (cO.out _ (Below.refl _ _).drew).mono ?_; rintro e wP ⟨v', rfl, hVP, hbP⟩; obtain ⟨ev, rfl⟩ := hVP.shape; have hBP := hide ((Below.refl wr.heap.size wr).drew.trans hbP); have hownP := own_keepV hown hBP.out; have HP3 := hide (hI3.out.below hBP.out zn); have HVP := hide hVP; have hPz := hBP.out.size; have q3P := HP3.out.cell 3; have zq3P := HP3.out.frozen 3; have lP := HP3.out.lt; simp at q3P; rw [hxl] at q3P; clear hVP hbP))
          all_goals
            have hIn := hide (hI.out.step hBP.out HVP.out (Nat.le_refl _) hwz ((Below.refl wP.heap.size wP).alloc (Nat.le_refl _) _) (by rw [hxl]; exact hgrow4) (by rw [hel]; exact hown4) (by rw [hxl]; exact hat4))
            rw [hel] at hIn
            have hz4 := hgrow4.size
            simp only [World.size_alloc] at hz4
            clear hown4 hgrow4 hat4 hownP hb3 qq3
            go_wp2_with fail
            go_roundw
            case rel => exact ⟨j + 1, _, _, _, _, by go_num, by omega, by simp [hxl], by simp; omega, hnx.out, hIn.out⟩
            case measure => simp [intOf]; omega
        · obtain rfl : j = l.length := by omega
          have hif : decide ((l.length : Int) < (l.length : Int)) = false := by simp
          have hxe : xs = l := by rw [hxs.out, List.take_length]
          subst hxe
          have r0 := hI.out.b3.cell 0; have r1 := hI.out.b3.cell 1; have r2 := hI.out.b3.cell 2; have r4 := hI.out.b3.cell 4
          have o0 := hI.out.b2.cell 0; have o1 := hI.out.b2.cell 1; have o2 := hI.out.b2.cell 2; have o3 := hI.out.b2.cell 3; have o4 := hI.out.b2.cell 4
          have y0 := hI.out.b2.frozen 0; have y1 := hI.out.b2.frozen 1; have y2 := hI.out.b2.frozen 2; have y3 := hI.out.b2.frozen 3; have y4 := hI.out.b2.frozen 4
          simp at r0 r1 r2 r4 o0 o1 o2 o3 o4
          have hDn := hide (fun v0 v1 v2 v3 v4 => (show OwnI w wr n W.heap.size _ k i ⟨s.toArray⟩ A0 cp none 0 [] es xs by rw [HX.out]; exact hI.out).done v0 v1 v2 v3 v4)
          go_wp2_with fail
          obtain ⟨hV5, hb5, hK5⟩ := hDn.out (.int .i64 k) (.int .i64 i) (.string x) (.slice A0 xs.length cp) (.slice none 0 0)
          rw [HX.out] at hV5
          unfold set5 at hV5 hb5 hK5
          clear r0 r1 r2 r4 o0 o1 o2 o3 o4 y0 y1 y2 y3 y4 p3 q3 zq3
          generalize ((((wr.setCell ⟨w.heap.size + 1, 0, none⟩ (.int .i64 k)).setCell ⟨w.heap.size + 1, 1, none⟩ (.int .i64 i)).setCell ⟨w.heap.size + 1, 2, none⟩ (.string x)).setCell ⟨w.heap.size + 1, 3, none⟩ (.slice A0 xs.length cp)).setCell ⟨w.heap.size + 1, 4, none⟩ (.slice none 0 0) = w5 at hV5 hb5 hK5 ⊢
          have r0 := hK5.cell 0; have r1 := hK5.cell 1; have r2 := hK5.cell 2; have r3 := hK5.cell 3; have r4 := hK5.cell 4
          simp at r0 r1 r2 r3 r4
          have HV5 := hide hV5; have HB5 := hide hb5
          clear hV5 hb5
          simp [bodyPost, results, Tryd.results16, go_sem, r0, r1, r2, r3, r4]
          exact ⟨HV5.out, HB5.out⟩
    · go_enter Tryd.func16, Tryd.ntmps16
      have hI0 := hide (And.intro K1 (And.intro K2 (And.intro K3 hBW)))
      clear K1 K2 K3 hBW
      go_wp2_with (at_builtin; refine wpList_append_own _ rfl _ _ 24 rfl (w.heap.size + 3) 9 i0 (.string ⟨#[]⟩) 1 16 Tryd.underlying24 hi hy0 hy1 hy2 rfl (by decide) _ 0 [] rfl (World.ownsRow_nil _ _ _ _) ad ks.length e (ks.map (fun x => .string ⟨x.toArray⟩)) rfl ?n1 ?n2 ?n3 ?n4 ?n5 ?n6 ?_)
      case n2 =>
        intro j u hu
        rw [HW.out]
        obtain ⟨g, off, he, _, _, hc⟩ := hSW.out j u hu
        injection he with he
        subst he
        rw [Addr.add_lit]
        exact hc
      case n3 => intro u hu; rfl
      case n4 => unfold maxLen; omega
      case n5 => omega
      intro v' w4 hown' hgrow hnil
      rw [HW.out] at hgrow
      obtain ⟨A5, c5, rfl⟩ := own_sliceV hown'
      obtain ⟨K1, K2, K3, hBW⟩ := hI0.out
      have hb4 : Below W.heap.size W w4 := (Below.refl _ _).grown hgrow (Nat.le_refl _) (fun k e => by cases e)
      have K34 := K3.below hb4 l3
      have c34 := K34.cell 4; have f34 := K34.frozen 4
      simp at c34
      have hI1 := hide (And.intro K1 (And.intro K2 (And.intro K34 hBW)))
      have HO := hide hown'; have HB4 := hide hb4
      clear K1 K2 K3 K34 hBW hnil hgrow hown' hb4
      go_wp2_with fail
      have hI : Hid (OwnI w (w4.setCell ⟨w.heap.size + 1 + 1, 4, none⟩ (.slice A5 ks.length c5)) n (w4.setCell ⟨w.heap.size + 1 + 1, 4, none⟩ (.slice A5 ks.length c5)).heap.size #[.int .i64 k, .int .i64 i, .string x, .slice a l.length c, .slice (some ad) ks.length e] k i x none 0 A5 c5 ks [] []) := by
        obtain ⟨K1, K2, K34, hBW⟩ := hI1.out
        have hb4 := HB4.out
        have hz4 := hb4.size
        have h3 := K34.set_ 4 (.slice A5 ks.length c5)
        simp at h3
        refine ⟨(hBW.trans (hb4.mono hBW.size)).setCell (p := ⟨w.heap.size + 1 + 1, 4, none⟩) (by simp; omega) _, by simp; omega, (K1.below hb4 (by omega)).far (p := ⟨w.heap.size + 1 + 1, 4, none⟩) (by simp; omega) _, (K2.below hb4 (by omega)).far (p := ⟨w.heap.size + 1 + 1, 4, none⟩) (by simp) _, h3, ?_, RowV.nil _ _ _⟩
        refine StrsAt.on (U := freshB (w.heap.size + 3)) (own_strs HO.out rfl (Nat.le_refl _)) ⟨by simp, ?_⟩
        rintro b hb ⟨h1, cs, t, h2⟩
        have he := Below.heap_setCell w4 ⟨w.heap.size + 1 + 1, 4, none⟩ (.slice A5 ks.length c5) b (by simp; omega)
        exact ⟨he, ⟨h1, cs, t, he.trans h2⟩, by simpa using hb⟩
      clear hI1 HO HB4 c34 f34
      generalize w4.setCell ⟨w.heap.size + 1 + 1, 4, none⟩ (.slice A5 ks.length c5) = W5 at hI ⊢
      go_loopw [4] (fun iv wr => ∃ (j : Nat) (A0 : Option Addr) (cp : Nat) (es : List VF) (xs : List (VT n)), iv = .int .i64 (j : Int) ∧ j ≤ l.length ∧ xs.length = j ∧ W5.heap.size ≤ wr.heap.size ∧ Hid (xs = l.take j) ∧ Hid (OwnI w wr n W5.heap.size #[.int .i64 k, .int .i64 i, .string x, .slice a l.length c, .slice (some ad) ks.length e] k i x A0 cp A5 c5 ks es xs)) (fun iv _ => l.length - (intOf iv).toNat)
      case atStart => exact ⟨0, _, _, [], [], rfl, Nat.zero_le _, rfl, Nat.le_refl _, rfl, hI⟩
      case round =>
        obtain ⟨j, A0, cp, es, xs, rfl, hjl, hxl, hwz, hxs, hI⟩ := hrel
        have bel := hI.out.bel
        have p3 := hI.out.b1.cell 3
        have q3 := hI.out.b3.cell 3
        have zq3 := hI.out.b3.frozen 3
        simp at p3 q3
        rw [hxl] at q3
        have zn := hI.out.b3.lt
        have hbs := hI.out.bs
        by_cases hlt : j < l.length
        · obtain ⟨y, hy⟩ : ∃ y, l[j]? = some y := ⟨_, List.getElem?_eq_getElem hlt⟩
          have hstay : Stays U U w wr := Stays.of_below bel fun b h => hU _ _ b bel h
          obtain ⟨g, o, rfl, hg, _, k2, i2, s2, a1, n1, d1, a2, n2, d2, ⟨f0, f1, f2, f3, f4⟩, hV⟩ := (HL.out.on (R' := IsV U wr n) hstay (IsV.on hstay n)) j y hy
          have cO := hide (fun W' (h : Below wr.heap.size wr W') => ih U hU _ y W' (IsV.on (Stays.of_below h fun b hh => hU _ _ b h hh) n _ _ hV) (HZ5.out y (List.mem_of_getElem? hy)))
          have hji : (j : Int) < (l.length : Int) := by omega
          have hel : es.length = j := by rw [hI.out.row.len, hxl]
          have hown := hI.out.row.own
          rw [hel, hxl] at hown
          have hnx := hide (show xs ++ [y] = l.take (j + 1) by rw [hxs.out, List.take_add_one, hy]; rfl)
          have hI3 := hide hI.out.b3
          have hne : some (w.heap.size + 1 + 1) ≠ (Value.slice A0 j cp).ownBlock := fun e => by have := (hown.lt _ e.symm).1; omega
          clear hV hstay hy bel
          go_wp2_with fail
          go_region_law (first
            | (refine step_append_lies _ rfl (.tmp 26) (.tmp 33) 23 rfl W5.heap.size 26 j0 (.agg #[.int .i64 0, .int .i64 0, .string ⟨#[]⟩, .slice none 0 0, .slice none 0 0]) 5 80 Tryd.underlying23 hj hv0 hv1 hv2 rfl (by decide) (.slice A0 j cp) j _ (by simp [Act.eval, Act.put]) (hownP.alloc _) ⟨wP.heap.size, 0, none⟩ 1 1 ev.cells (by simp [Act.eval, Act.put]) rfl (by intro t u ht; match t, ht with | 0, ht => (simp [VF.cells] at ht; subst ht; simp [Addr.add]) | 1, ht => (simp [VF.cells] at ht; subst ht; simp [Addr.add]) | 2, ht => (simp [VF.cells] at ht; subst ht; simp [Addr.add]) | 3, ht => (simp [VF.cells] at ht; subst ht; simp [Addr.add]) | 4, ht => (simp [VF.cells] at ht; subst ht; simp [Addr.add])) (by intro u hu; simp [VF.cells] at hu; rcases hu with rfl | rfl | rfl | rfl | rfl <;> rfl) (by omega) (by unfold maxLen; omega) (by omega) (by simp; omega) _ rfl ?_; intro g4 cp4 w4 hown4 hgrow4 hat4 hlt4; have hb3 : Blk w4 (w.heap.size + 1 + 1) 26 #[.int .i64 k, .int .i64 i, .string x, .slice A0 xs.length cp, .slice A5 ks.length c5] := (HP3.out.alloc _).grown hgrow4 hne; have zz3 := hb3.frozen 3; have qq3 := hb3.cell 3; have l4 := hb3.lt; simp at qq3)
            | (go_simp; go_at_call 16; refine (cO.out _ (Below.refl _ _).drew).mono ?_; rintro e wP ⟨v', rfl, hVP, hbP⟩; obtain ⟨ev, rfl⟩ := hVP.shape; have hBP := hide ((Below.refl wr.heap.size wr).drew.trans hbP); have hownP := own_keepV hown hBP.out; have HP3 := hide (hI3.out.below hBP.out zn); have HVP := hide hVP; have hPz := hBP.out.size; have q3P := HP3.out.cell 3; have zq3P := HP3.out.frozen 3; have lP := HP3.out.lt; simp at q3P; rw [hxl] at q3P; clear hVP hbP))
          all_goals
            have hIn := hide (hI.out.step hBP.out HVP.out (Nat.le_refl _) hwz ((Below.refl wP.heap.size wP).alloc (Nat.le_refl _) _) (by rw [hxl]; exact hgrow4) (by rw [hel]; exact hown4) (by rw [hxl]; exact hat4))
            rw [hel] at hIn
            have hz4 := hgrow4.size
            simp only [World.size_alloc] at hz4
            clear hown4 hgrow4 hat4 hownP hb3 qq3
            go_wp2_with fail
            go_roundw
            case rel => exact ⟨j + 1, _, _, _, _, by go_num, by omega, by simp [hxl], by simp; omega, hnx.out, hIn.out⟩
            case measure => simp [intOf]; omega
        · obtain rfl : j = l.length := by omega
          have hif : decide ((l.length : Int) < (l.length : Int)) = false := by simp
          have hxe : xs = l := by rw [hxs.out, List.take_length]
          subst hxe
          have r0 := hI.out.b3.cell 0; have r1 := hI.out.b3.cell 1; have r2 := hI.out.b3.cell 2; have r4 := hI.out.b3.cell 4
          have o0 := hI.out.b2.cell 0; have o1 := hI.out.b2.cell 1; have o2 := hI.out.b2.cell 2; have o3 := hI.out.b2.cell 3; have o4 := hI.out.b2.cell 4
          have y0 := hI.out.b2.frozen 0; have y1 := hI.out.b2.frozen 1; have y2 := hI.out.b2.frozen 2; have y3 := hI.out.b2.frozen 3; have y4 := hI.out.b2.frozen 4
          simp at r0 r1 r2 r4 o0 o1 o2 o3 o4
          have hDn := hide (fun v0 v1 v2 v3 v4 => (show OwnI w wr n W5.heap.size _ k i ⟨s.toArray⟩ A0 cp A5 c5 ks es xs by rw [HX.out]; exact hI.out).done v0 v1 v2 v3 v4)
          go_wp2_with fail
          obtain ⟨hV5, hb5, hK5⟩ := hDn.out (.int .i64 k) (.int .i64 i) (.string x) (.slice A0 xs.length cp) (.slice A5 ks.length c5)
          rw [HX.out] at hV5
          unfold set5 at hV5 hb5 hK5
          clear r0 r1 r2 r4 o0 o1 o2 o3 o4 y0 y1 y2 y3 y4 p3 q3 zq3
          generalize ((((wr.setCell ⟨w.heap.size + 1, 0, none⟩ (.int .i64 k)).setCell ⟨w.heap.size + 1, 1, none⟩ (.int .i64 i)).setCell ⟨w.heap.size + 1, 2, none⟩ (.string x)).setCell ⟨w.heap.size + 1, 3, none⟩ (.slice A0 xs.length cp)).setCell ⟨w.heap.size + 1, 4, none⟩ (.slice A5 ks.length c5) = w5 at hV5 hb5 hK5 ⊢
          have r0 := hK5.cell 0; have r1 := hK5.cell 1; have r2 := hK5.cell 2; have r3 := hK5.cell 3; have r4 := hK5.cell 4
          simp at r0 r1 r2 r3 r4
          have HV5 := hide hV5; have HB5 := hide hb5
          clear hV5 hb5
          simp [bodyPost, results, Tryd.results16, go_sem, r0, r1, r2, r3, r4]
          exact ⟨HV5.out, HB5.out⟩
end Go.Proofs.YtdnmgpidfjkiaaaDoor
