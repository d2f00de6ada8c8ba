/-
  PLAIN LAWS of many texts, in one.
-/
import Derived.Test.YtnepogddjinpoaaGreatDoorP16
import Derived.Test.YtnepogddjinpoaaGreatDoorP3
import Derived.Test.YtnepogddjinpoaaGreatDoorC4
namespace Go.Proofs.YtnepogddjinpoaaGreatDoor
open Go.RowKit
set_option linter.unusedVariables false
set_option linter.unusedSimpArgs false

/-- Nodes whose parts lie in blocks that X lets by. -/
abbrev NodeH (X : Nat → Prop) (n : Nat) : Rel (NT n) := fun U w vs x => NodeR n (fun w b => U w b ∧ X b) w vs x
theorem NodeH.steady (X : Nat → Prop) (n : Nat) : Steady (NodeH X n) := fun U U' w w' hs vs x h => NodeR.steady n _ _ w w' ⟨hs.size, fun b h1 h2 => ⟨(hs.block b h1 h2.1).1, (hs.block b h1 h2.1).2, h2.2⟩⟩ vs x h
/-- Blocks from N on that X lets by. -/
def HB (N : Nat) (X : Nat → Prop) : World → Nat → Prop := fun w b => freshB N w b ∧ X b
theorem lasts_HB (N : Nat) (X : Nat → Prop) : Lasts (HB N X) := fun w w' b hb hl ⟨⟨h1, cs, t, h2⟩, h3⟩ => ⟨⟨h1, cs, t, (hb.block b hl).trans h2⟩, h3⟩
theorem atH_out {N n : Nat} {X : Nat → Prop} {w : World} {a : Option Addr} {l : List (NT n)} (h : AtR (NodeH X n) 9 (freshB N) w a l) (hX : ∀ b o, a = some ⟨b, o, none⟩ → X b) : AtR (NodeR n) 9 (HB N X) w a l := by
  intro j x hx
  obtain ⟨b, off, vs, h1, h2, h3, h4, h5, h6⟩ := h j x hx
  exact ⟨b, off, vs, h1, h2, ⟨h3, hX b off h1⟩, h4, h5, h6⟩
/-- What fold.beside gives. -/
def BesideH (X : Nat → Prop) (m N : Nat) (w : World) (l : List (NN (NT m))) (e : Ending) (w' : World) : Prop := ∃ A c es, e = .returned (.slice A (besideL l).length c) ∧ RowR (NodeH X (m + 1)) 9 N 61 w' (.slice A (besideL l).length c) es (besideL l) ∧ (∀ q, (Value.slice A (besideL l).length c).ownBlock = some q → w.heap.size ≤ q) ∧ Below w.heap.size w w'
set_option maxHeartbeats 4000000 in
set_option maxRecDepth 100000 in
theorem beside_H (X : Nat → Prop) (m N : Nat) (a : Option Addr) (c : Nat) (l : List (NN (NT m))) (w : World) (hN : N ≤ w.heap.size) (h : AtR (NodeH X (m + 1)) 9 (freshB N) w a l) (hlen : l.length ≤ 1048576) (htx : sumBy (fun x : NN (NT m) => x.s.length) l ≤ 100000000000000) : Calls Tryz.prog 26 #[.slice a l.length c] w (BesideH X m N w l) := by
  obtain ⟨i0, hi, hz0, hz1, hz2⟩ := info_parts info_nodeO
  have H := hide (h.low (NodeH.steady X (m + 1)))
  have HTX := hide htx
  clear h htx
  go_enter Tryz.func26, Tryz.ntmps26
  go_wp2_with (at_make; refine wpList_make_own _ rfl _ _ 41 rfl w.heap.size 61 i0 (.agg #[.int .i64 0, .string ⟨#[]⟩, .string ⟨#[]⟩, .slice none 0 0, .slice none 0 0, .slice none 0 0, .int .i64 0, .int .i64 0, .int .i64 0]) 9 Tryz.underlying41 hi hz0 hz1 .i64 .i64 _ l.length rfl rfl rfl (by rw [hz2]; omega) (by unfold maxLen; omega) (by simp) ?_; intro w2 hown2 hgrow2)
  have hI : Hid (Below w.heap.size w w2 ∧ RowR (NodeH X (m + 1)) 9 N 61 w2 (.slice (some ⟨w.heap.size, 0, none⟩) 0 l.length) [] [] ∧ ∀ q, (Value.slice (some ⟨w.heap.size, 0, none⟩) 0 l.length).ownBlock = some q → w.heap.size ≤ q) :=
    ⟨(Below.refl _ _).grown hgrow2 (Nat.le_refl _) (fun k e => by cases e), RowR.made ((show w2.ownsRow w.heap.size 61 9 _ 0 [] by simpa using hown2).mono hN), fun q hq => by have hq : some w.heap.size = some q := hq; injection hq with hq; omega⟩
  clear hown2 hgrow2
  go_loopw [3, 12] (fun ov iv wr => ∃ (j : Nat) (A0 : Option Addr) (p cp : Nat) (es : List (List Value)) (xs : List (NN (NT m))), iv = .int .i64 (j : Int) ∧ ov = .slice A0 p cp ∧ j ≤ l.length ∧ p ≤ 1048576 ∧ Hid (xs.length = p) ∧ Hid (xs = (l.take j).foldl besideStep []) ∧ Hid (Below w.heap.size w wr ∧ RowR (NodeH X (m + 1)) 9 N 61 wr (.slice A0 p cp) es xs ∧ ∀ q, (Value.slice A0 p cp).ownBlock = some q → w.heap.size ≤ q)) (fun _ iv _ => l.length - (intOf iv).toNat)
  case atStart => exact ⟨0, _, _, _, [], [], rfl, rfl, Nat.zero_le _, Nat.zero_le _, rfl, rfl, hI⟩
  case round =>
    obtain ⟨j, A0, p, cp, es, xs, rfl, rfl, hjl, hpl, hxl, hxs, hJ⟩ := hrel
    by_cases hlt : j < l.length
    · obtain ⟨z, hz⟩ : ∃ z, l[j]? = some z := ⟨_, List.getElem?_eq_getElem hlt⟩
      obtain ⟨g, o, vs, rfl, hg, _, _, hcell, hNo⟩ := (H.out.on (NodeH.steady X (m + 1)) (stays_low (Below.refl _ _) hJ.out.1 hJ.out.1.size)) j z hz
      obtain ⟨a1, c1, a2, c2, a3, c3, rfl, q1, q2, q3⟩ := NodeR.parts hNo
      have f0 := hcell 0 _ rfl; have f1 := hcell 1 _ rfl; have f2 := hcell 2 _ rfl; have f3 := hcell 3 _ rfl; have f4 := hcell 4 _ rfl; have f5 := hcell 5 _ rfl; have f6 := hcell 6 _ rfl; have f7 := hcell 7 _ rfl; have f8 := hcell 8 _ rfl
      simp only [Nat.add_zero] at f0
      have hji : (j : Int) < (l.length : Int) := by omega
      have hnx := hide (show besideStep xs z = (l.take (j + 1)).foldl besideStep [] by rw [hxs.out, List.take_add_one, hz]; simp)
      have HN := hide (And.intro q1 (And.intro q2 q3))
      have HZS : Hid (z.s.length ≤ 100000000000000) := Nat.le_trans (sumBy_mem (fun x : NN (NT m) => x.s.length) l z (List.mem_of_getElem? hz)) HTX.out
      clear hcell hz hNo q1 q2 q3
      have hel : es.length = p := hJ.out.2.1.len.trans hxl.out
      have HEL := hide hel
      have hownJ := hJ.out.2.1.own
      rw [hel] at hownJ
      have hwz := hJ.out.1.size
      have HPL := hide hpl
      clear hel hpl
      by_cases hk : z.k = 1
      · have hkt : (z.k == 1) = true := by simpa using hk
        have HZK := hide hk
        clear hk
        rcases p with _ | p'
        · have hx0 : xs = [] := List.eq_nil_of_length_eq_zero hxl.out
          have HB := hide (show besideStep xs z = xs ++ [z] by subst hx0; rfl)
          clear hx0
          go_wp2_with (at_builtin; refine wpList_append_lies _ rfl _ _ 41 rfl N 61 i0 (.agg #[.int .i64 0, .string ⟨#[]⟩, .string ⟨#[]⟩, .slice none 0 0, .slice none 0 0, .slice none 0 0, .int .i64 0, .int .i64 0, .int .i64 0]) 9 136 Tryz.underlying41 hi hz0 hz1 hz2 rfl (by decide) (.slice A0 0 cp) 0 _ rfl ((hownJ.alloc _).alloc _) ⟨wr.heap.size + 1, 0, none⟩ 1 1 [.int .i64 z.k, .string ⟨z.s.toArray⟩, .string ⟨z.nm.toArray⟩, .slice a1 z.pipe.length c1, .slice a2 z.body.length c2, .slice a3 z.els.length c3, .int .i64 z.pos, .int .i64 z.esc, .int .i64 z.unit] rfl rfl (by intro j u hj; match j, hj with | 0, hj => (simp at hj; subst hj; simp [Addr.add]) | 1, hj => (simp at hj; subst hj; simp [Addr.add]) | 2, hj => (simp at hj; subst hj; simp [Addr.add]) | 3, hj => (simp at hj; subst hj; simp [Addr.add]) | 4, hj => (simp at hj; subst hj; simp [Addr.add]) | 5, hj => (simp at hj; subst hj; simp [Addr.add]) | 6, hj => (simp at hj; subst hj; simp [Addr.add]) | 7, hj => (simp at hj; subst hj; simp [Addr.add]) | 8, hj => (simp at hj; subst hj; simp [Addr.add])) (by intro u hu; simp at hu; rcases hu with rfl | rfl | rfl | rfl | rfl | rfl | rfl | rfl | rfl <;> rfl) (by omega) (by have := HPL.out; unfold maxLen; omega) (by have := HPL.out; omega) (by simp; omega) _ rfl ?_)
          intro g4 cp4 w4 hown4 hgrow4 hat4 hlt4
          have hA := ((Below.refl wr.heap.size wr).alloc (Nat.le_refl _) (.cells #[.int .i64 z.k, .string ⟨z.s.toArray⟩, .string ⟨z.nm.toArray⟩, .slice a1 z.pipe.length c1, .slice a2 z.body.length c2, .slice a3 z.els.length c3, .int .i64 z.pos, .int .i64 z.esc, .int .i64 z.unit] 61)).alloc (by simp) (.cells #[.int .i64 z.k, .string ⟨z.s.toArray⟩, .string ⟨z.nm.toArray⟩, .slice a1 z.pipe.length c1, .slice a2 z.body.length c2, .slice a3 z.els.length c3, .int .i64 z.pos, .int .i64 z.esc, .int .i64 z.unit] 61)
          have hV : NodeH X (m + 1) (besideB N (Value.slice A0 0 cp).ownBlock) wr [.int .i64 z.k, .string ⟨z.s.toArray⟩, .string ⟨z.nm.toArray⟩, .slice a1 z.pipe.length c1, .slice a2 z.body.length c2, .slice a3 z.els.length c3, .int .i64 z.pos, .int .i64 z.esc, .int .i64 z.unit] z := NodeH.steady X (m + 1) _ _ wr wr (stays_weaken (fun b _ hb => ⟨⟨hb.1.1, by obtain ⟨cs, t, h3⟩ := hb.1.2; exact ⟨cs, t, (hJ.out.1.block b hb.2).trans h3⟩⟩, fun e => by have := hJ.out.2.2 b e.symm; have := hb.2; omega⟩)) _ _ (NodeR.made HN.out.1 HN.out.2.1 HN.out.2.2)
          have hIn := hide (hJ.out.2.1.snocB (NodeH.steady X (m + 1)) rfl hV hA hgrow4 (by rw [HEL.out]; exact hown4) (by rcases hat4 with q | q; exact .inl q; exact .inr (by simpa using q)))
          have hBn := hide ((hJ.out.1.trans (hA.mono hJ.out.1.size)).grown hgrow4 (by simp; omega) (fun q hq => hJ.out.2.2 q hq))
          have hQn : Hid (∀ q, (Value.slice (some ⟨g4, 0, none⟩) (0 + 1) cp4).ownBlock = some q → w.heap.size ≤ q) := by
            intro q hq
            have hq : some g4 = some q := hq
            injection hq with hq
            subst hq
            rcases hat4 with h5 | h5
            · exact hJ.out.2.2 g4 h5
            · first | omega | (simp at h5; omega)
          rw [HEL.out] at hIn
          have hlen2 : 0 + 1 ≤ 1048576 := by
            have e1 : (besideStep xs z).length ≤ 0 + (l.take (j + 1)).length := hnx.out ▸ foldl_len (l.take (j + 1)) ([] : List (NN (NT m)))
            have e2 : (besideStep xs z).length = xs.length + 1 := (congrArg List.length HB.out).trans (List.length_append.trans rfl)
            have e3 : (l.take (j + 1)).length ≤ l.length := List.length_take_le' _ _
            have := hxl.out
            omega
          clear hown4 hgrow4 hat4 hV hA
          go_wp2_with fail
          go_roundw
          case rel => exact ⟨j + 1, some ⟨g4, 0, none⟩, 0 + 1, cp4, _, xs ++ [z], by go_num, rfl, by omega, hlen2, hide (by simp [hxl.out]), hide (by rw [← HB.out]; exact hnx.out), hide ⟨hBn.out, hIn.out, hQn.out⟩⟩
          case measure => simp [intOf]; omega
        · obtain ⟨y, hy⟩ : ∃ y, xs[p']? = some y := ⟨_, List.getElem?_eq_getElem (by have := hxl.out; omega)⟩
          have hlast : xs.getLast? = some y := by rw [List.getLast?_eq_getElem?, hxl.out]; exact hy
          obtain ⟨cy, hcy⟩ : ∃ cy, es[p']? = some cy := ⟨_, List.getElem?_eq_getElem (by have := HEL.out; omega)⟩
          obtain ⟨g0, cap0, hv0, _, hg0⟩ := hownJ.form (by omega)
          injection hv0 with e1 _ e2
          subst e1; subst e2
          obtain ⟨b1, d1, b2, d2, b3, d3, rfl, t1, t2, t3⟩ := NodeR.parts (hJ.out.2.1.each p' cy y hcy hy)
          have r0 := hJ.out.2.1.cell hcy (t := 0) rfl
          have r1 := hJ.out.2.1.cell hcy (t := 1) rfl
          have y1 := hJ.out.2.1.frozen (p' * 9 + 1)
          simp only [Nat.add_zero] at r0
          have HT := hide (And.intro hy (And.intro hcy (And.intro hlast (And.intro t1 (And.intro t2 t3)))))
          clear hy hcy hlast t1 t2 t3
          have hp9 : (p' : Int) ≤ 1048575 := by have := HPL.out; omega
          by_cases hy1 : y.k = 1
          · have hyt : (y.k == 1) = true := by simpa using hy1
            have HY1 := hide hy1
            clear hownJ hy1
            have hcat : ¬ (9223372036854775807 < y.s.length + z.s.length) := by
              have e1 := sumBy_mem (fun x : NN (NT m) => x.s.length) xs y (List.mem_of_getElem? HT.out.1)
              have e2 := foldl_text (l.take j) ([] : List (NN (NT m)))
              rw [← hxs.out] at e2
              have e3 := sumBy_take_drop (fun x : NN (NT m) => x.s.length) l j
              have e4 := HZS.out
              have e5 := HTX.out
              simp only [sumBy] at e2
              omega
            go_wp2_with fail
            go_region
            go_wp2_with fail
            have hg0w : w.heap.size ≤ g0 := hJ.out.2.2 g0 rfl
            have HY2 := hide (show xs.set p' ({ y with s := y.s ++ z.s } : NN (NT m)) = (l.take (j + 1)).foldl besideStep [] by
              rw [← hnx.out]
              have e1 : p' = xs.length - 1 := by rw [hxl.out]; rfl
              rw [e1, set_last HT.out.2.2.1]
              unfold besideStep
              rw [HT.out.2.2.1]
              simp [HZK.out, HY1.out])
            have HRow : Hid (∀ (W' : World), Below wr.heap.size wr W' → RowR (NodeH X (m + 1)) 9 N 61 (W'.setCell ⟨g0, p' * 9 + 1, none⟩ (.string ⟨(y.s ++ z.s).toArray⟩)) (.slice (some ⟨g0, 0, none⟩) (p' + 1) cp) (es.set p' ((nodeCells y.k ⟨y.s.toArray⟩ ⟨y.nm.toArray⟩ b1 y.pipe.length d1 b2 y.body.length d2 b3 y.els.length d3 y.pos y.esc y.unit).set 1 (.string ⟨(y.s ++ z.s).toArray⟩))) (xs.set p' ({ y with s := y.s ++ z.s } : NN (NT m)))) :=
              fun W' hW => (hJ.out.2.1.below (NodeH.steady X (m + 1)) hW).put (NodeH.steady X (m + 1)) HT.out.2.1 HT.out.1 (t := 1) (by decide) (.string ⟨(y.s ++ z.s).toArray⟩) (y := ({ y with s := y.s ++ z.s } : NN (NT m))) (NodeH.steady X (m + 1) _ _ wr W' (stays_beside hW.size (fun b h1 _ _ => hW.block b h1)) _ _ (NodeR.made (x := ({ y with s := y.s ++ z.s } : NN (NT m))) HT.out.2.2.2.1 HT.out.2.2.2.2.1 HT.out.2.2.2.2.2))
            have HBel := hide (Chg.of_below (S := []) hJ.out.1)
            go_roundw
            case rel =>
              refine ⟨j + 1, some ⟨g0, 0, none⟩, p' + 1, cp, es.set p' ((nodeCells y.k ⟨y.s.toArray⟩ ⟨y.nm.toArray⟩ b1 y.pipe.length d1 b2 y.body.length d2 b3 y.els.length d3 y.pos y.esc y.unit).set 1 (.string ⟨(y.s ++ z.s).toArray⟩)), xs.set p' ({ y with s := y.s ++ z.s } : NN (NT m)), by go_num, rfl, by omega, HPL.out, hide ((List.length_set).trans hxl.out), HY2, ?_⟩
              rw [bytes_cat]
              exact hide (And.intro (Chg.bel (by have C9 := HBel.out; (repeat' (first | with_reducible exact C9 | with_reducible exact Chg.refl _ _ | with_reducible refine Chg.alloc ?_ _ | with_reducible refine Chg.drew ?_ | with_reducible refine Chg.drewN ?_ _ | with_reducible refine Chg.set_ ?_ _ _ (by first | (simp; done) | (simp; omega) | omega))))) (And.intro ((HRow.out wr (Below.refl wr.heap.size wr)).below (NodeH.steady X (m + 1)) (Chg.bel (by (repeat' (first | with_reducible exact Chg.refl _ _ | with_reducible refine Chg.alloc ?_ _ | with_reducible refine Chg.drew ?_ | with_reducible refine Chg.drewN ?_ _ | with_reducible refine Chg.set_ ?_ _ _ (by first | (simp; done) | (simp; omega) | omega)))))) hJ.out.2.2))
            case measure => simp [intOf]; omega
          · have hyf : (y.k == 1) = false := by simpa using hy1
            have HB := hide (show besideStep xs z = xs ++ [z] by unfold besideStep; rw [HT.out.2.2.1]; simp [hy1])
            have HYf := hide hy1
            clear hy1
            go_wp2_with (at_builtin; refine wpList_append_lies _ rfl _ _ 41 rfl N 61 i0 (.agg #[.int .i64 0, .string ⟨#[]⟩, .string ⟨#[]⟩, .slice none 0 0, .slice none 0 0, .slice none 0 0, .int .i64 0, .int .i64 0, .int .i64 0]) 9 136 Tryz.underlying41 hi hz0 hz1 hz2 rfl (by decide) (.slice (some ⟨g0, 0, none⟩) (p' + 1) cp) (p' + 1) _ rfl ((hownJ.alloc _).alloc _) ⟨wr.heap.size + 1, 0, none⟩ 1 1 [.int .i64 z.k, .string ⟨z.s.toArray⟩, .string ⟨z.nm.toArray⟩, .slice a1 z.pipe.length c1, .slice a2 z.body.length c2, .slice a3 z.els.length c3, .int .i64 z.pos, .int .i64 z.esc, .int .i64 z.unit] rfl rfl (by intro j u hj; match j, hj with | 0, hj => (simp at hj; subst hj; simp [Addr.add]) | 1, hj => (simp at hj; subst hj; simp [Addr.add]) | 2, hj => (simp at hj; subst hj; simp [Addr.add]) | 3, hj => (simp at hj; subst hj; simp [Addr.add]) | 4, hj => (simp at hj; subst hj; simp [Addr.add]) | 5, hj => (simp at hj; subst hj; simp [Addr.add]) | 6, hj => (simp at hj; subst hj; simp [Addr.add]) | 7, hj => (simp at hj; subst hj; simp [Addr.add]) | 8, hj => (simp at hj; subst hj; simp [Addr.add])) (by intro u hu; simp at hu; rcases hu with rfl | rfl | rfl | rfl | rfl | rfl | rfl | rfl | rfl <;> rfl) (by omega) (by have := HPL.out; unfold maxLen; omega) (by have := HPL.out; omega) (by simp; omega) _ rfl ?_)
            intro g4 cp4 w4 hown4 hgrow4 hat4 hlt4
            have hA := ((Below.refl wr.heap.size wr).alloc (Nat.le_refl _) (.cells #[.int .i64 z.k, .string ⟨z.s.toArray⟩, .string ⟨z.nm.toArray⟩, .slice a1 z.pipe.length c1, .slice a2 z.body.length c2, .slice a3 z.els.length c3, .int .i64 z.pos, .int .i64 z.esc, .int .i64 z.unit] 61)).alloc (by simp) (.cells #[.int .i64 z.k, .string ⟨z.s.toArray⟩, .string ⟨z.nm.toArray⟩, .slice a1 z.pipe.length c1, .slice a2 z.body.length c2, .slice a3 z.els.length c3, .int .i64 z.pos, .int .i64 z.esc, .int .i64 z.unit] 61)
            have hV : NodeH X (m + 1) (besideB N (Value.slice (some ⟨g0, 0, none⟩) (p' + 1) cp).ownBlock) wr [.int .i64 z.k, .string ⟨z.s.toArray⟩, .string ⟨z.nm.toArray⟩, .slice a1 z.pipe.length c1, .slice a2 z.body.length c2, .slice a3 z.els.length c3, .int .i64 z.pos, .int .i64 z.esc, .int .i64 z.unit] z := NodeH.steady X (m + 1) _ _ wr wr (stays_weaken (fun b _ hb => ⟨⟨hb.1.1, by obtain ⟨cs, t, h3⟩ := hb.1.2; exact ⟨cs, t, (hJ.out.1.block b hb.2).trans h3⟩⟩, fun e => by have := hJ.out.2.2 b e.symm; have := hb.2; omega⟩)) _ _ (NodeR.made HN.out.1 HN.out.2.1 HN.out.2.2)
            have hIn := hide (hJ.out.2.1.snocB (NodeH.steady X (m + 1)) rfl hV hA hgrow4 (by rw [HEL.out]; exact hown4) (by rcases hat4 with q | q; exact .inl q; exact .inr (by simpa using q)))
            have hBn := hide ((hJ.out.1.trans (hA.mono hJ.out.1.size)).grown hgrow4 (by simp; omega) (fun q hq => hJ.out.2.2 q hq))
            have hQn : Hid (∀ q, (Value.slice (some ⟨g4, 0, none⟩) ((p' + 1) + 1) cp4).ownBlock = some q → w.heap.size ≤ q) := by
              intro q hq
              have hq : some g4 = some q := hq
              injection hq with hq
              subst hq
              rcases hat4 with h5 | h5
              · exact hJ.out.2.2 g4 h5
              · first | omega | (simp at h5; omega)
            rw [HEL.out] at hIn
            have hlen2 : (p' + 1) + 1 ≤ 1048576 := by
              have e1 : (besideStep xs z).length ≤ 0 + (l.take (j + 1)).length := hnx.out ▸ foldl_len (l.take (j + 1)) ([] : List (NN (NT m)))
              have e2 : (besideStep xs z).length = xs.length + 1 := (congrArg List.length HB.out).trans (List.length_append.trans rfl)
              have e3 : (l.take (j + 1)).length ≤ l.length := List.length_take_le' _ _
              have := hxl.out
              omega
            clear hown4 hgrow4 hat4 hV hA
            go_wp2_with fail
            go_roundw
            case rel => exact ⟨j + 1, some ⟨g4, 0, none⟩, (p' + 1) + 1, cp4, _, xs ++ [z], by go_num, rfl, by omega, hlen2, hide (by simp [hxl.out]), hide (by rw [← HB.out]; exact hnx.out), hide ⟨hBn.out, hIn.out, hQn.out⟩⟩
            case measure => simp [intOf]; omega
      · have hkf : (z.k == 1) = false := by simpa using hk
        have HB := hide (show besideStep xs z = xs ++ [z] by
          unfold besideStep
          cases hq : xs.getLast? with
          | none => rw [List.getLast?_eq_none_iff.1 hq]; rfl
          | some y => simp [hk])
        go_wp2_with (at_builtin; refine wpList_append_lies _ rfl _ _ 41 rfl N 61 i0 (.agg #[.int .i64 0, .string ⟨#[]⟩, .string ⟨#[]⟩, .slice none 0 0, .slice none 0 0, .slice none 0 0, .int .i64 0, .int .i64 0, .int .i64 0]) 9 136 Tryz.underlying41 hi hz0 hz1 hz2 rfl (by decide) (.slice A0 p cp) p _ rfl ((hownJ.alloc _).alloc _) ⟨wr.heap.size + 1, 0, none⟩ 1 1 [.int .i64 z.k, .string ⟨z.s.toArray⟩, .string ⟨z.nm.toArray⟩, .slice a1 z.pipe.length c1, .slice a2 z.body.length c2, .slice a3 z.els.length c3, .int .i64 z.pos, .int .i64 z.esc, .int .i64 z.unit] rfl rfl (by intro j u hj; match j, hj with | 0, hj => (simp at hj; subst hj; simp [Addr.add]) | 1, hj => (simp at hj; subst hj; simp [Addr.add]) | 2, hj => (simp at hj; subst hj; simp [Addr.add]) | 3, hj => (simp at hj; subst hj; simp [Addr.add]) | 4, hj => (simp at hj; subst hj; simp [Addr.add]) | 5, hj => (simp at hj; subst hj; simp [Addr.add]) | 6, hj => (simp at hj; subst hj; simp [Addr.add]) | 7, hj => (simp at hj; subst hj; simp [Addr.add]) | 8, hj => (simp at hj; subst hj; simp [Addr.add])) (by intro u hu; simp at hu; rcases hu with rfl | rfl | rfl | rfl | rfl | rfl | rfl | rfl | rfl <;> rfl) (by omega) (by have := HPL.out; unfold maxLen; omega) (by have := HPL.out; omega) (by simp; omega) _ rfl ?_)
        intro g4 cp4 w4 hown4 hgrow4 hat4 hlt4
        have hA := ((Below.refl wr.heap.size wr).alloc (Nat.le_refl _) (.cells #[.int .i64 z.k, .string ⟨z.s.toArray⟩, .string ⟨z.nm.toArray⟩, .slice a1 z.pipe.length c1, .slice a2 z.body.length c2, .slice a3 z.els.length c3, .int .i64 z.pos, .int .i64 z.esc, .int .i64 z.unit] 61)).alloc (by simp) (.cells #[.int .i64 z.k, .string ⟨z.s.toArray⟩, .string ⟨z.nm.toArray⟩, .slice a1 z.pipe.length c1, .slice a2 z.body.length c2, .slice a3 z.els.length c3, .int .i64 z.pos, .int .i64 z.esc, .int .i64 z.unit] 61)
        have hV : NodeH X (m + 1) (besideB N (Value.slice A0 p cp).ownBlock) wr [.int .i64 z.k, .string ⟨z.s.toArray⟩, .string ⟨z.nm.toArray⟩, .slice a1 z.pipe.length c1, .slice a2 z.body.length c2, .slice a3 z.els.length c3, .int .i64 z.pos, .int .i64 z.esc, .int .i64 z.unit] z := NodeH.steady X (m + 1) _ _ wr wr (stays_weaken (fun b _ hb => ⟨⟨hb.1.1, by obtain ⟨cs, t, h3⟩ := hb.1.2; exact ⟨cs, t, (hJ.out.1.block b hb.2).trans h3⟩⟩, fun e => by have := hJ.out.2.2 b e.symm; have := hb.2; omega⟩)) _ _ (NodeR.made HN.out.1 HN.out.2.1 HN.out.2.2)
        have hIn := hide (hJ.out.2.1.snocB (NodeH.steady X (m + 1)) rfl hV hA hgrow4 (by rw [HEL.out]; exact hown4) (by rcases hat4 with q | q; exact .inl q; exact .inr (by simpa using q)))
        have hBn := hide ((hJ.out.1.trans (hA.mono hJ.out.1.size)).grown hgrow4 (by simp; omega) (fun q hq => hJ.out.2.2 q hq))
        have hQn : Hid (∀ q, (Value.slice (some ⟨g4, 0, none⟩) (p + 1) cp4).ownBlock = some q → w.heap.size ≤ q) := by
          intro q hq
          have hq : some g4 = some q := hq
          injection hq with hq
          subst hq
          rcases hat4 with h5 | h5
          · exact hJ.out.2.2 g4 h5
          · first | omega | (simp at h5; omega)
        rw [HEL.out] at hIn
        have hlen2 : p + 1 ≤ 1048576 := by
          have e1 : (besideStep xs z).length ≤ 0 + (l.take (j + 1)).length := hnx.out ▸ foldl_len (l.take (j + 1)) ([] : List (NN (NT m)))
          have e2 : (besideStep xs z).length = xs.length + 1 := (congrArg List.length HB.out).trans (List.length_append.trans rfl)
          have e3 : (l.take (j + 1)).length ≤ l.length := List.length_take_le' _ _
          have := hxl.out
          omega
        clear hown4 hgrow4 hat4 hV hA
        go_wp2_with fail
        go_roundw
        case rel => exact ⟨j + 1, some ⟨g4, 0, none⟩, p + 1, cp4, _, xs ++ [z], by go_num, rfl, by omega, hlen2, hide (by simp [hxl.out]), hide (by rw [← HB.out]; exact hnx.out), hide ⟨hBn.out, hIn.out, hQn.out⟩⟩
        case measure => simp [intOf]; omega
    · obtain rfl : j = l.length := by omega
      have hif : decide ((l.length : Int) < (l.length : Int)) = false := by simp
      have hxe : xs = besideL l := by rw [hxs.out, List.take_length]; rfl
      have hp := hxl.out
      subst hxe
      subst hp
      clear hjl hlt
      go_wp2_with fail
      go_ret
      exact ⟨A0, cp, es, rfl, hJ.out.2.1, hJ.out.2.2, hJ.out.1⟩
end Go.Proofs.YtnepogddjinpoaaGreatDoor

namespace Go.Proofs.YtnepogddjinpoaaGreatDoor
open Go.RowKit
set_option linter.unusedVariables false
set_option linter.unusedSimpArgs false

theorem lift_rel {U : World → Nat → Prop} {w : World} : ∀ (n : Nat) (vs : List Value) (x : NT n), NodeR n U w vs x → NodeR (n + 1) U w vs (liftN n x) := by
  intro n
  induction n with
  | zero => intro vs x h; exact h.elim
  | succ n ih =>
    intro vs x h
    obtain ⟨a1, c1, a2, c2, a3, c3, h1, h2, h3, h4⟩ := h
    have up : ∀ (a : Option Addr) (l : List (NT n)), AtR (NodeR n) 9 U w a l → AtR (NodeR (n + 1)) 9 U w a (l.map (liftN n)) := by
      intro a l hl j y hy
      rw [List.getElem?_map] at hy
      obtain ⟨z, hz, rfl⟩ := Option.map_eq_some_iff.1 hy
      obtain ⟨b, off, vs, e1, e2, e3, e4, e5, e6⟩ := hl j z hz
      exact ⟨b, off, vs, e1, e2, e3, e4, e5, ih _ _ e6⟩
    refine ⟨a1, c1, a2, c2, a3, c3, ?_, h2, up a2 _ h3, up a3 _ h4⟩
    rw [h1]
    show nodeCells _ _ _ a1 _ c1 a2 (NN.body x).length c2 a3 (NN.els x).length c3 _ _ _ = nodeCells _ _ _ a1 _ c1 a2 ((NN.body x).map (liftN n)).length c2 a3 ((NN.els x).map (liftN n)).length c3 _ _ _
    rw [List.length_map, List.length_map]
    rfl
theorem lift_at {n : Nat} {U : World → Nat → Prop} {w : World} {a : Option Addr} {l : List (NT n)} (h : AtR (NodeR n) 9 U w a l) : AtR (NodeR (n + 1)) 9 U w a (l.map (liftN n)) := by
  intro j y hy
  rw [List.getElem?_map] at hy
  obtain ⟨z, hz, rfl⟩ := Option.map_eq_some_iff.1 hy
  obtain ⟨b, off, vs, e1, e2, e3, e4, e5, e6⟩ := h j z hz
  exact ⟨b, off, vs, e1, e2, e3, e4, e5, lift_rel n _ _ e6⟩
/-- The cells of elements that lie one behind the other. -/
theorem AtR.list {α : Type} {R : Rel α} {size : Nat} {U : World → Nat → Prop} {w : World} {g : Nat} : ∀ {l : List α} (k : Nat), (∀ j x, l[j]? = some x → ∃ vs : List Value, vs.length = size ∧ (∀ t u, vs[t]? = some u → w.cell? ⟨g, (k + j) * size + t, none⟩ = some u) ∧ R U w vs x) →
    ∃ fs : List (List Value), fs.length = l.length ∧ (∀ c ∈ fs, c.length = size) ∧ (∀ (r : Nat) (c : List Value) (y : α), fs[r]? = some c → l[r]? = some y → R U w c y) ∧ (∀ i u, fs.flatten[i]? = some u → w.cell? ⟨g, k * size + i, none⟩ = some u) := by
  intro l
  induction l with
  | nil => intro k _; exact ⟨[], rfl, fun c h => (by cases h), fun r c y h => (by simp at h), fun i u h => (by simp at h)⟩
  | cons x l ih =>
    intro k h
    obtain ⟨vs, h1, h2, h3⟩ := h 0 x rfl
    obtain ⟨fs, q1, q2, q3, q4⟩ := ih (k + 1) (fun j y hy => by
      obtain ⟨ws, e1, e2, e3⟩ := h (j + 1) y hy
      exact ⟨ws, e1, fun t u ht => by rw [show k + 1 + j = k + (j + 1) by omega]; exact e2 t u ht, e3⟩)
    refine ⟨vs :: fs, by simp [q1], ?_, ?_, ?_⟩
    · intro c hc
      rcases List.mem_cons.1 hc with rfl | hc
      · exact h1
      · exact q2 c hc
    · intro r c y hr hy
      cases r with
      | zero => simp at hr hy; subst hr; subst hy; exact h3
      | succ r => exact q3 r c y (by simpa using hr) (by simpa using hy)
    · intro i u hi
      rw [List.flatten_cons] at hi
      rcases Nat.lt_or_ge i vs.length with hlt | hge
      · rw [List.getElem?_append_left hlt] at hi
        have := h2 i u hi
        rwa [Nat.add_zero] at this
      · rw [List.getElem?_append_right hge] at hi
        have := q4 (i - vs.length) u hi
        rw [h1] at this
        rw [h1] at hge
        rw [show k * size + i = (k + 1) * size + (i - size) by rw [Nat.add_mul]; omega]
        exact this
theorem AtR.cellsOf {α : Type} {R : Rel α} {size : Nat} {U : World → Nat → Prop} {w : World} {g : Nat} {l : List α} (h : AtR R size U w (some ⟨g, 0, none⟩) l) :
    ∃ fs : List (List Value), fs.length = l.length ∧ (∀ c ∈ fs, c.length = size) ∧ (∀ (r : Nat) (c : List Value) (y : α), fs[r]? = some c → l[r]? = some y → R U w c y) ∧ (∀ i u, fs.flatten[i]? = some u → w.cell? ⟨g, i, none⟩ = some u) := by
  obtain ⟨fs, h1, h2, h3, h4⟩ := AtR.list (R := R) (size := size) (U := U) (w := w) (g := g) (l := l) 0 (fun j x hx => by
    obtain ⟨b, off, vs, e1, _, _, e4, e5, e6⟩ := h j x hx
    injection e1 with e1
    injection e1 with e1 e2 _
    subst e1; subst e2
    exact ⟨vs, e4, fun t u ht => by have := e5 t u ht; simpa using this, e6⟩)
  exact ⟨fs, h1, h2, h3, fun i u hi => by have := h4 i u hi; simpa using this⟩
/-- Elements more, whose parts lie beside the row. -/
theorem RowR.appendB {α : Type} {R : Rel α} (hR : Steady R) {size base : Nat} {e : TypeId} {w wA w4 : World} {v v' : Value} {es fs : List (List Value)} {xs ys : List α} (h : RowR R size base e w v es xs) (hfs : ∀ c ∈ fs, c.length = size) (hfl : fs.length = ys.length) (hV : ∀ (r : Nat) (c : List Value) (y : α), fs[r]? = some c → ys[r]? = some y → R (besideB base v.ownBlock) w c y)
    (hA : Below w.heap.size w wA) (hg : wA.grownBy w4 v.ownBlock) (hown : w4.ownsRow base e size v' (es.length + fs.length) (es.flatten ++ fs.flatten)) (hat : v'.ownBlock = v.ownBlock ∨ v'.ownBlock = some wA.heap.size) :
    RowR R size base e w4 v' (es ++ fs) (xs ++ ys) := by
  have hsz : w.heap.size ≤ w4.heap.size := Nat.le_trans hA.size hg.size
  have hkeep : ∀ b, b < w.heap.size → some b ≠ v.ownBlock → w4.heap[b]? = w.heap[b]? := fun b h1 h2 => (hg.block b (Nat.lt_of_lt_of_le h1 hA.size) h2).trans (hA.block b h1)
  have hne : ∀ b, b < w.heap.size → some b ≠ v.ownBlock → some b ≠ v'.ownBlock := by
    intro b h1 h2 e
    rcases hat with h3 | h3
    · exact h2 (e.trans h3)
    · rw [h3] at e
      injection e with e
      have := hA.size; omega
  have hst : Stays (besideB base v.ownBlock) (besideB base v'.ownBlock) w w4 := by
    refine ⟨hsz, ?_⟩
    rintro b h1 ⟨⟨h2, cs, t, h3⟩, h4⟩
    exact ⟨hkeep b h1 h4, ⟨h2, cs, t, (hkeep b h1 h4).trans h3⟩, hne b h1 h4⟩
  refine ⟨by rw [List.length_append, List.flatten_append]; exact hown, ?_, by simp [h.len, hfl], ?_⟩
  · intro d hd
    rcases List.mem_append.1 hd with hd | hd
    · exact h.sized d hd
    · exact hfs d hd
  intro r d x' he hx
  rcases Nat.lt_or_ge r es.length with hr | hr
  · rw [List.getElem?_append_left hr] at he
    rw [List.getElem?_append_left (by rw [← h.len]; exact hr)] at hx
    exact hR _ _ w w4 hst _ _ (h.each r d x' he hx)
  · rw [List.getElem?_append_right (by omega)] at he
    rw [List.getElem?_append_right (by rw [← h.len]; omega), ← h.len] at hx
    exact hR _ _ w w4 hst _ _ (hV _ d x' he hx)
/-- How much one node becomes. -/
theorem step_bare (B n : Nat) {x : NN (NT n)} {b e : List (NT n)} {o : List (NN (NT n))} (hb : FoldsTo B n x.body b) (he : FoldsTo B n x.els e) (hn : NodeF B n { x with body := b, els := e } o) : sumBy (bareN (n + 1)) o ≤ bareN (n + 1) x := by
  have mb := folds_bare B n _ _ hb
  have me := folds_bare B n _ _ he
  show sumBy (bareN (n + 1)) o ≤ 1 + x.nm.length + sumBy massC x.pipe + sumBy (bareN n) x.body + sumBy (bareN n) x.els
  cases hn with
  | told s h3 _ =>
    split
    · exact Nat.zero_le _
    · show 1 + 0 + 0 + 0 + 0 + 0 ≤ _
      omega
  | picked l' o' _ h3 h4 =>
    subst h4
    rw [sum_mapF, sum_congrF (lift_bare n)]
    rcases pick_cases h3 with rfl | rfl
    · show sumBy (bareN n) l' ≤ _
      omega
    · show sumBy (bareN n) l' ≤ _
      omega
  | kept h3 h4 =>
    show (1 + x.nm.length + sumBy massC x.pipe + sumBy (bareN n) b + sumBy (bareN n) e) + 0 ≤ _
    omega
theorem split_sum {n B : Nat} : ∀ r : List (NT n), sumBy (fun x => textsN n x + B * bareN n x) r = sumBy (textsN n) r + B * sumBy (bareN n) r := by
  intro r
  induction r with
  | nil => rfl
  | cons z r ihr =>
    show textsN n z + B * bareN n z + sumBy (fun x => textsN n x + B * bareN n x) r = textsN n z + sumBy (textsN n) r + B * (bareN n z + sumBy (bareN n) r)
    rw [ihr, Nat.mul_add]; omega
theorem step_texts (B n : Nat) {x : NN (NT n)} {b e : List (NT n)} {o : List (NN (NT n))} (hb : FoldsTo B n x.body b) (he : FoldsTo B n x.els e) (hn : NodeF B n { x with body := b, els := e } o) : sumBy (textsN (n + 1)) o ≤ textsN (n + 1) x + B * bareN (n + 1) x := by
  have mb := folds_texts B n _ _ hb
  have me := folds_texts B n _ _ he
  rw [split_sum] at mb me
  show sumBy (textsN (n + 1)) o ≤ (x.s.length + sumBy (textsN n) x.body + sumBy (textsN n) x.els) + B * (1 + x.nm.length + sumBy massC x.pipe + sumBy (bareN n) x.body + sumBy (bareN n) x.els)
  have hB : B * (1 + x.nm.length + sumBy massC x.pipe + sumBy (bareN n) x.body + sumBy (bareN n) x.els) = B + B * x.nm.length + B * sumBy massC x.pipe + B * sumBy (bareN n) x.body + B * sumBy (bareN n) x.els := by
    rw [Nat.mul_add, Nat.mul_add, Nat.mul_add, Nat.mul_add, Nat.mul_one]
  rw [hB]
  cases hn with
  | told s h3 h5 =>
    split
    · exact Nat.zero_le _
    · show (s.length + 0 + 0) + 0 ≤ _
      omega
  | picked l' o' _ h3 h4 =>
    subst h4
    rw [sum_mapF, sum_congrF (lift_texts n)]
    rcases pick_cases h3 with rfl | rfl
    · show sumBy (textsN n) l' ≤ _
      omega
    · show sumBy (textsN n) l' ≤ _
      omega
  | kept h3 h4 =>
    show (x.s.length + sumBy (textsN n) b + sumBy (textsN n) e) + 0 ≤ _
    omega
/-- The numbers in nodes' arguments are numbers of 64 bits. -/
def numN : (n : Nat) → NT n → Prop
  | 0, _ => True
  | n + 1, x => (∀ c ∈ NN.pipe x, numC c) ∧ (∀ y ∈ NN.body x, numN n y) ∧ (∀ y ∈ NN.els x, numN n y)
end Go.Proofs.YtnepogddjinpoaaGreatDoor
