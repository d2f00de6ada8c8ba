/-
  PLAIN LAWS of many texts, in one.
-/
import Derived.Test.YtnepogddjinpoaaGreatDoorM1
import Derived.Test.YtnepogddjinpoaaGreatDoorAll
import Derived.BigRegion
import Derived.Deep.Onto
namespace Go.Proofs.YtnepogddjinpoaaGreatDoor
open Go.RowKit
set_option linter.unusedVariables false

/-- One node more, behind those that are there: a text behind a text is put to it. -/
def besideStep {α : Type} (out : List (NN α)) (x : NN α) : List (NN α) :=
  match out.getLast? with
  | some y => if x.k = 1 ∧ y.k = 1 then out.dropLast ++ [{ y with s := y.s ++ x.s }] else out ++ [x]
  | none => [x]
def besideL {α : Type} (l : List (NN α)) : List (NN α) := l.foldl besideStep []
/-- Are no texts beside each other in a list? -/
def noAdj {α : Type} : List (NN α) → Bool
  | x :: y :: l => !(decide (x.k = 1) && decide (y.k = 1)) && noAdj (y :: l)
  | _ => true
theorem noAdj_snoc {α : Type} : ∀ (l : List (NN α)) (x : NN α), noAdj (l ++ [x]) = (noAdj l && match l.getLast? with | some y => !(decide (y.k = 1) && decide (x.k = 1)) | none => true) := by
  intro l
  induction l with
  | nil => intro x; rfl
  | cons a l ih =>
    intro x
    cases l with
    | nil => simp [noAdj]
    | cons b l =>
      have := ih x
      simp only [List.cons_append] at this ⊢
      simp only [noAdj, this]
      rw [List.getLast?_cons_cons, Bool.and_assoc]
theorem last_split {α : Type} {l : List α} {y : α} (h : l.getLast? = some y) : l = l.dropLast ++ [y] := by
  have hne : l ≠ [] := by intro e; subst e; cases h
  rw [List.getLast?_eq_some_getLast hne] at h
  injection h with h
  rw [← h]
  exact (List.dropLast_concat_getLast hne).symm
theorem besideStep_adj {α : Type} {out : List (NN α)} (x : NN α) (h : noAdj out = true) : noAdj (besideStep out x) = true := by
  unfold besideStep
  cases hl : out.getLast? with
  | none => rfl
  | some y =>
    have hs := last_split hl
    simp only
    by_cases hc : x.k = 1 ∧ y.k = 1
    · rw [if_pos hc]
      rw [hs, noAdj_snoc] at h
      rw [noAdj_snoc]
      exact h
    · rw [if_neg hc, noAdj_snoc, h, hl]
      simp only [Bool.true_and, Bool.not_eq_true', Bool.and_eq_false_iff, decide_eq_false_iff_not]
      by_cases h1 : y.k = 1
      · exact .inr fun h2 => hc ⟨h2, h1⟩
      · exact .inl h1
theorem foldl_adj {α : Type} : ∀ (l out : List (NN α)), noAdj out = true → noAdj (l.foldl besideStep out) = true := by
  intro l
  induction l with
  | nil => intro out h; exact h
  | cons x l ih => intro out h; exact ih _ (besideStep_adj x h)
theorem beside_adj {α : Type} (l : List (NN α)) : noAdj (besideL l) = true := foldl_adj l [] rfl
theorem foldl_id {α : Type} : ∀ (l out : List (NN α)), noAdj (out ++ l) = true → l.foldl besideStep out = out ++ l := by
  intro l
  induction l with
  | nil => intro out _; simp
  | cons x l ih =>
    intro out h
    have hx : besideStep out x = out ++ [x] := by
      unfold besideStep
      cases hl : out.getLast? with
      | none => rw [List.getLast?_eq_none_iff.1 hl]; rfl
      | some y =>
        simp only
        rw [if_neg]
        rintro ⟨h1, h2⟩
        have hp : ∀ (a b : List (NN α)), noAdj (a ++ b) = true → noAdj a = true := by
          intro a b
          induction b generalizing a with
          | nil => intro h; simpa using h
          | cons z b ihb =>
            intro h
            have := ihb (a ++ [z]) (by simpa using h)
            rw [noAdj_snoc] at this
            simp only [Bool.and_eq_true] at this
            exact this.1
        have h3 := hp (out ++ [x]) l (by simpa using h)
        rw [noAdj_snoc, hl] at h3
        simp [h1, h2] at h3
    rw [List.foldl_cons, hx, ih _ (by simpa using h)]
    simp
theorem beside_id {α : Type} {l : List (NN α)} (h : noAdj l = true) : besideL l = l := foldl_id l [] (by simpa using h)
end Go.Proofs.YtnepogddjinpoaaGreatDoor

namespace Go.Proofs.YtnepogddjinpoaaGreatDoor
open Go.RowKit
set_option linter.unusedVariables false
set_option linter.unusedSimpArgs false

theorem bytes_cat (a b : List UInt8) : (⟨a.toArray⟩ : ByteArray) ++ ⟨b.toArray⟩ = ⟨(a ++ b).toArray⟩ := by
  apply ByteArray.ext
  simp
/-- One element more, whose parts lie beside the row. -/
theorem RowR.snocB {α : Type} {R : Rel α} (hR : Steady R) {size base g cap : Nat} {e : TypeId} {w wA w4 : World} {v : Value} {es : List (List Value)} {c : List Value} {xs : List α} {y : α} (h : RowR R size base e w v es xs) (hc : c.length = size) (hV : R (besideB base v.ownBlock) w c y)
    (hA : Below w.heap.size w wA) (hg : wA.grownBy w4 v.ownBlock)
    (hown : w4.ownsRow base e size (.slice (some ⟨g, 0, none⟩) (es.length + 1) cap) (es.length + 1) (es.flatten ++ c)) (hat : v.ownBlock = some g ∨ g = wA.heap.size) :
    RowR R size base e w4 (.slice (some ⟨g, 0, none⟩) (es.length + 1) cap) (es ++ [c]) (xs ++ [y]) := by
  have hsz : w.heap.size ≤ w4.heap.size := Nat.le_trans hA.size hg.size
  have hkeep : ∀ b, b < w.heap.size → some b ≠ v.ownBlock → w4.heap[b]? = w.heap[b]? := fun b h1 h2 => (hg.block b (Nat.lt_of_lt_of_le h1 hA.size) h2).trans (hA.block b h1)
  have hne : ∀ b, b < w.heap.size → some b ≠ v.ownBlock → some b ≠ some g := by
    intro b h1 h2 e
    injection e with e
    subst e
    rcases hat with h3 | h3
    · exact h2 h3.symm
    · have := hA.size; omega
  have hst : Stays (besideB base v.ownBlock) (besideB base (some g)) w w4 := by
    refine ⟨hsz, ?_⟩
    rintro b h1 ⟨⟨h2, cs, t, h3⟩, h4⟩
    exact ⟨hkeep b h1 h4, ⟨h2, cs, t, (hkeep b h1 h4).trans h3⟩, hne b h1 h4⟩
  refine ⟨by rw [List.length_append, List.flatten_append]; simpa using hown, ?_, by simp [h.len], ?_⟩
  · intro d hd
    rcases List.mem_append.1 hd with hd | hd
    · exact h.sized d hd
    · simp at hd; subst hd; exact hc
  intro r d x' he hx
  show R (besideB base (some g)) w4 d x'
  rcases Nat.lt_or_ge r es.length with hr | hr
  · rw [List.getElem?_append_left hr] at he
    rw [List.getElem?_append_left (by rw [← h.len]; exact hr)] at hx
    exact hR _ _ w w4 hst _ _ (h.each r d x' he hx)
  · obtain rfl : r = es.length := by
      have := (List.getElem?_eq_some_iff.1 he).1
      simp at this; omega
    rw [List.getElem?_append_right (by omega)] at he
    rw [List.getElem?_append_right (by rw [h.len]; omega), ← h.len] at hx
    simp at he hx
    subst he; subst hx
    exact hR _ _ w w4 hst _ _ hV
theorem set_last {α : Type} {l : List α} {y y' : α} (h : l.getLast? = some y) : l.set (l.length - 1) y' = l.dropLast ++ [y'] := by
  have hs := last_split h
  have hl : l.length - 1 = l.dropLast.length := by simp
  rw [hl]
  conv => lhs; rw [hs]
  rw [List.set_append_right _ _ (by simp)]
  simp
/-- What fold.beside gives: a row of its own; the nodes' parts are those that were handed in. -/
def BesideOf (m N : Nat) (w : World) (l : List (NN (NT m))) (e : Ending) (w' : World) : Prop := ∃ A c es, e = .returned (.slice A (besideL l).length c) ∧ RowR (NodeR (m + 1)) 9 N 61 w' (.slice A (besideL l).length c) es (besideL l) ∧ Below w.heap.size w w'
theorem foldl_len {α : Type} : ∀ (l out : List (NN α)), (l.foldl besideStep out).length ≤ out.length + l.length := by
  intro l
  induction l with
  | nil => intro out; simp
  | cons x l ih =>
    intro out
    have h1 : (besideStep out x).length ≤ out.length + 1 := by
      unfold besideStep
      cases h : out.getLast? with
      | none => simp
      | some y =>
        simp only
        by_cases hc : x.k = 1 ∧ y.k = 1
        · rw [if_pos hc]; first | (simp; done) | (simp; omega)
        · rw [if_neg hc]; simp
    have := ih (besideStep out x)
    simp only [List.foldl_cons, List.length_cons]
    omega
theorem foldl_text {α : Type} : ∀ (l out : List (NN α)), sumBy (fun x => x.s.length) (l.foldl besideStep out) = sumBy (fun x => x.s.length) out + sumBy (fun x => x.s.length) l := by
  intro l
  induction l with
  | nil => intro out; simp [sumBy]
  | cons x l ih =>
    intro out
    have h1 : sumBy (fun x : NN α => x.s.length) (besideStep out x) = sumBy (fun x => x.s.length) out + x.s.length := by
      unfold besideStep
      cases h : out.getLast? with
      | none => rw [List.getLast?_eq_none_iff.1 h]; simp [sumBy]
      | some y =>
        simp only
        by_cases hc : x.k = 1 ∧ y.k = 1
        · rw [if_pos hc, sumBy_append]
          conv => rhs; rw [last_split h, sumBy_append]
          simp [sumBy]; omega
        · rw [if_neg hc, sumBy_append]; simp [sumBy]
    rw [List.foldl_cons, ih, h1]
    simp only [sumBy]; omega
set_option maxHeartbeats 4000000 in
set_option maxRecDepth 100000 in
theorem beside_anyT (m N : Nat) (a : Option Addr) (c : Nat) (l : List (NN (NT m))) (w : World) (hN : N ≤ w.heap.size) (h : AtR (NodeR (m + 1)) 9 (freshB N) w a l) (hlen : l.length ≤ 1048576) (htx : sumBy (fun x : NN (NT m) => x.s.length) l ≤ 100000000000000) : Calls Tryz.prog 26 #[.slice a l.length c] w (BesideOf m N w l) := by
  obtain ⟨i0, hi, hz0, hz1, hz2⟩ := info_parts info_nodeO
  have H := hide (h.low (NodeR.steady (m + 1)))
  have HTX := hide htx
  clear h htx
  go_enter Tryz.func26, Tryz.ntmps26
  go_wp2_with (at_make; refine wpList_make_own _ rfl _ _ 41 rfl w.heap.size 61 i0 (.agg #[.int .i64 0, .string ⟨#[]⟩, .string ⟨#[]⟩, .slice none 0 0, .slice none 0 0, .slice none 0 0, .int .i64 0, .int .i64 0, .int .i64 0]) 9 Tryz.underlying41 hi hz0 hz1 .i64 .i64 _ l.length rfl rfl rfl (by rw [hz2]; omega) (by unfold maxLen; omega) (by simp) ?_; intro w2 hown2 hgrow2)
  have hI : Hid (Below w.heap.size w w2 ∧ RowR (NodeR (m + 1)) 9 N 61 w2 (.slice (some ⟨w.heap.size, 0, none⟩) 0 l.length) [] [] ∧ ∀ q, (Value.slice (some ⟨w.heap.size, 0, none⟩) 0 l.length).ownBlock = some q → w.heap.size ≤ q) :=
    ⟨(Below.refl _ _).grown hgrow2 (Nat.le_refl _) (fun k e => by cases e), RowR.made ((show w2.ownsRow w.heap.size 61 9 _ 0 [] by simpa using hown2).mono hN), fun q hq => by have hq : some w.heap.size = some q := hq; injection hq with hq; omega⟩
  clear hown2 hgrow2
  go_loopw [3, 12] (fun ov iv wr => ∃ (j : Nat) (A0 : Option Addr) (p cp : Nat) (es : List (List Value)) (xs : List (NN (NT m))), iv = .int .i64 (j : Int) ∧ ov = .slice A0 p cp ∧ j ≤ l.length ∧ p ≤ 1048576 ∧ Hid (xs.length = p) ∧ Hid (xs = (l.take j).foldl besideStep []) ∧ Hid (Below w.heap.size w wr ∧ RowR (NodeR (m + 1)) 9 N 61 wr (.slice A0 p cp) es xs ∧ ∀ q, (Value.slice A0 p cp).ownBlock = some q → w.heap.size ≤ q)) (fun _ iv _ => l.length - (intOf iv).toNat)
  case atStart => exact ⟨0, _, _, _, [], [], rfl, rfl, Nat.zero_le _, Nat.zero_le _, rfl, rfl, hI⟩
  case round =>
    obtain ⟨j, A0, p, cp, es, xs, rfl, rfl, hjl, hpl, hxl, hxs, hJ⟩ := hrel
    by_cases hlt : j < l.length
    · obtain ⟨z, hz⟩ : ∃ z, l[j]? = some z := ⟨_, List.getElem?_eq_getElem hlt⟩
      obtain ⟨g, o, vs, rfl, hg, _, _, hcell, hNo⟩ := (H.out.on (NodeR.steady (m + 1)) (stays_low (Below.refl _ _) hJ.out.1 hJ.out.1.size)) j z hz
      obtain ⟨a1, c1, a2, c2, a3, c3, rfl, q1, q2, q3⟩ := hNo.parts
      have f0 := hcell 0 _ rfl; have f1 := hcell 1 _ rfl; have f2 := hcell 2 _ rfl; have f3 := hcell 3 _ rfl; have f4 := hcell 4 _ rfl; have f5 := hcell 5 _ rfl; have f6 := hcell 6 _ rfl; have f7 := hcell 7 _ rfl; have f8 := hcell 8 _ rfl
      simp only [Nat.add_zero] at f0
      have hji : (j : Int) < (l.length : Int) := by omega
      have hnx := hide (show besideStep xs z = (l.take (j + 1)).foldl besideStep [] by rw [hxs.out, List.take_add_one, hz]; simp)
      have HN := hide (And.intro q1 (And.intro q2 q3))
      have HZS : Hid (z.s.length ≤ 100000000000000) := Nat.le_trans (sumBy_mem (fun x : NN (NT m) => x.s.length) l z (List.mem_of_getElem? hz)) HTX.out
      clear hcell hz hNo q1 q2 q3
      have hel : es.length = p := hJ.out.2.1.len.trans hxl.out
      have HEL := hide hel
      have hownJ := hJ.out.2.1.own
      rw [hel] at hownJ
      have hwz := hJ.out.1.size
      have HPL := hide hpl
      clear hel hpl
      by_cases hk : z.k = 1
      · have hkt : (z.k == 1) = true := by simpa using hk
        have HZK := hide hk
        clear hk
        rcases p with _ | p'
        · have hx0 : xs = [] := List.eq_nil_of_length_eq_zero hxl.out
          have HB := hide (show besideStep xs z = xs ++ [z] by subst hx0; rfl)
          clear hx0
          go_wp2_with (at_builtin; refine wpList_append_lies _ rfl _ _ 41 rfl N 61 i0 (.agg #[.int .i64 0, .string ⟨#[]⟩, .string ⟨#[]⟩, .slice none 0 0, .slice none 0 0, .slice none 0 0, .int .i64 0, .int .i64 0, .int .i64 0]) 9 136 Tryz.underlying41 hi hz0 hz1 hz2 rfl (by decide) (.slice A0 0 cp) 0 _ rfl ((hownJ.alloc _).alloc _) ⟨wr.heap.size + 1, 0, none⟩ 1 1 [.int .i64 z.k, .string ⟨z.s.toArray⟩, .string ⟨z.nm.toArray⟩, .slice a1 z.pipe.length c1, .slice a2 z.body.length c2, .slice a3 z.els.length c3, .int .i64 z.pos, .int .i64 z.esc, .int .i64 z.unit] rfl rfl (by intro j u hj; match j, hj with | 0, hj => (simp at hj; subst hj; simp [Addr.add]) | 1, hj => (simp at hj; subst hj; simp [Addr.add]) | 2, hj => (simp at hj; subst hj; simp [Addr.add]) | 3, hj => (simp at hj; subst hj; simp [Addr.add]) | 4, hj => (simp at hj; subst hj; simp [Addr.add]) | 5, hj => (simp at hj; subst hj; simp [Addr.add]) | 6, hj => (simp at hj; subst hj; simp [Addr.add]) | 7, hj => (simp at hj; subst hj; simp [Addr.add]) | 8, hj => (simp at hj; subst hj; simp [Addr.add])) (by intro u hu; simp at hu; rcases hu with rfl | rfl | rfl | rfl | rfl | rfl | rfl | rfl | rfl <;> rfl) (by omega) (by have := HPL.out; unfold maxLen; omega) (by have := HPL.out; omega) (by simp; omega) _ rfl ?_)
          intro g4 cp4 w4 hown4 hgrow4 hat4 hlt4
          have hA := ((Below.refl wr.heap.size wr).alloc (Nat.le_refl _) (.cells #[.int .i64 z.k, .string ⟨z.s.toArray⟩, .string ⟨z.nm.toArray⟩, .slice a1 z.pipe.length c1, .slice a2 z.body.length c2, .slice a3 z.els.length c3, .int .i64 z.pos, .int .i64 z.esc, .int .i64 z.unit] 61)).alloc (by simp) (.cells #[.int .i64 z.k, .string ⟨z.s.toArray⟩, .string ⟨z.nm.toArray⟩, .slice a1 z.pipe.length c1, .slice a2 z.body.length c2, .slice a3 z.els.length c3, .int .i64 z.pos, .int .i64 z.esc, .int .i64 z.unit] 61)
          have hV : NodeR (m + 1) (besideB N (Value.slice A0 0 cp).ownBlock) wr [.int .i64 z.k, .string ⟨z.s.toArray⟩, .string ⟨z.nm.toArray⟩, .slice a1 z.pipe.length c1, .slice a2 z.body.length c2, .slice a3 z.els.length c3, .int .i64 z.pos, .int .i64 z.esc, .int .i64 z.unit] z := NodeR.steady (m + 1) _ _ wr wr (stays_weaken (fun b _ hb => ⟨⟨hb.1.1, by obtain ⟨cs, t, h3⟩ := hb.1.2; exact ⟨cs, t, (hJ.out.1.block b hb.2).trans h3⟩⟩, fun e => by have := hJ.out.2.2 b e.symm; have := hb.2; omega⟩)) _ _ (NodeR.made HN.out.1 HN.out.2.1 HN.out.2.2)
          have hIn := hide (hJ.out.2.1.snocB (NodeR.steady (m + 1)) rfl hV hA hgrow4 (by rw [HEL.out]; exact hown4) (by rcases hat4 with q | q; exact .inl q; exact .inr (by simpa using q)))
          have hBn := hide ((hJ.out.1.trans (hA.mono hJ.out.1.size)).grown hgrow4 (by simp; omega) (fun q hq => hJ.out.2.2 q hq))
          have hQn : Hid (∀ q, (Value.slice (some ⟨g4, 0, none⟩) (0 + 1) cp4).ownBlock = some q → w.heap.size ≤ q) := by
            intro q hq
            have hq : some g4 = some q := hq
            injection hq with hq
            subst hq
            rcases hat4 with h5 | h5
            · exact hJ.out.2.2 g4 h5
            · first | omega | (simp at h5; omega)
          rw [HEL.out] at hIn
          have hlen2 : 0 + 1 ≤ 1048576 := by
            have e1 : (besideStep xs z).length ≤ 0 + (l.take (j + 1)).length := hnx.out ▸ foldl_len (l.take (j + 1)) ([] : List (NN (NT m)))
            have e2 : (besideStep xs z).length = xs.length + 1 := (congrArg List.length HB.out).trans (List.length_append.trans rfl)
            have e3 : (l.take (j + 1)).length ≤ l.length := List.length_take_le' _ _
            have := hxl.out
            omega
          clear hown4 hgrow4 hat4 hV hA
          go_wp2_with fail
          go_roundw
          case rel => exact ⟨j + 1, some ⟨g4, 0, none⟩, 0 + 1, cp4, _, xs ++ [z], by go_num, rfl, by omega, hlen2, hide (by simp [hxl.out]), hide (by rw [← HB.out]; exact hnx.out), hide ⟨hBn.out, hIn.out, hQn.out⟩⟩
          case measure => simp [intOf]; omega
        · obtain ⟨y, hy⟩ : ∃ y, xs[p']? = some y := ⟨_, List.getElem?_eq_getElem (by have := hxl.out; omega)⟩
          have hlast : xs.getLast? = some y := by rw [List.getLast?_eq_getElem?, hxl.out]; exact hy
          obtain ⟨cy, hcy⟩ : ∃ cy, es[p']? = some cy := ⟨_, List.getElem?_eq_getElem (by have := HEL.out; omega)⟩
          obtain ⟨g0, cap0, hv0, _, hg0⟩ := hownJ.form (by omega)
          injection hv0 with e1 _ e2
          subst e1; subst e2
          obtain ⟨b1, d1, b2, d2, b3, d3, rfl, t1, t2, t3⟩ := NodeR.parts (hJ.out.2.1.each p' cy y hcy hy)
          have r0 := hJ.out.2.1.cell hcy (t := 0) rfl
          have r1 := hJ.out.2.1.cell hcy (t := 1) rfl
          have y1 := hJ.out.2.1.frozen (p' * 9 + 1)
          simp only [Nat.add_zero] at r0
          have HT := hide (And.intro hy (And.intro hcy (And.intro hlast (And.intro t1 (And.intro t2 t3)))))
          clear hy hcy hlast t1 t2 t3
          have hp9 : (p' : Int) ≤ 1048575 := by have := HPL.out; omega
          by_cases hy1 : y.k = 1
          · have hyt : (y.k == 1) = true := by simpa using hy1
            have HY1 := hide hy1
            clear hownJ hy1
            have hcat : ¬ (9223372036854775807 < y.s.length + z.s.length) := by
              have e1 := sumBy_mem (fun x : NN (NT m) => x.s.length) xs y (List.mem_of_getElem? HT.out.1)
              have e2 := foldl_text (l.take j) ([] : List (NN (NT m)))
              rw [← hxs.out] at e2
              have e3 := sumBy_take_drop (fun x : NN (NT m) => x.s.length) l j
              have e4 := HZS.out
              have e5 := HTX.out
              simp only [sumBy] at e2
              omega
            go_wp2_with fail
            go_region
            go_wp2_with fail
            have hg0w : w.heap.size ≤ g0 := hJ.out.2.2 g0 rfl
            have HY2 := hide (show xs.set p' ({ y with s := y.s ++ z.s } : NN (NT m)) = (l.take (j + 1)).foldl besideStep [] by
              rw [← hnx.out]
              have e1 : p' = xs.length - 1 := by rw [hxl.out]; rfl
              rw [e1, set_last HT.out.2.2.1]
              unfold besideStep
              rw [HT.out.2.2.1]
              simp [HZK.out, HY1.out])
            have HRow : Hid (∀ (W' : World), Below wr.heap.size wr W' → RowR (NodeR (m + 1)) 9 N 61 (W'.setCell ⟨g0, p' * 9 + 1, none⟩ (.string ⟨(y.s ++ z.s).toArray⟩)) (.slice (some ⟨g0, 0, none⟩) (p' + 1) cp) (es.set p' ((nodeCells y.k ⟨y.s.toArray⟩ ⟨y.nm.toArray⟩ b1 y.pipe.length d1 b2 y.body.length d2 b3 y.els.length d3 y.pos y.esc y.unit).set 1 (.string ⟨(y.s ++ z.s).toArray⟩))) (xs.set p' ({ y with s := y.s ++ z.s } : NN (NT m)))) :=
              fun W' hW => (hJ.out.2.1.below (NodeR.steady (m + 1)) hW).put (NodeR.steady (m + 1)) HT.out.2.1 HT.out.1 (t := 1) (by decide) (.string ⟨(y.s ++ z.s).toArray⟩) (y := ({ y with s := y.s ++ z.s } : NN (NT m))) (NodeR.steady (m + 1) _ _ wr W' (stays_beside hW.size (fun b h1 _ _ => hW.block b h1)) _ _ (NodeR.made (x := ({ y with s := y.s ++ z.s } : NN (NT m))) HT.out.2.2.2.1 HT.out.2.2.2.2.1 HT.out.2.2.2.2.2))
            have HBel := hide (Chg.of_below (S := []) hJ.out.1)
            go_roundw
            case rel =>
              refine ⟨j + 1, some ⟨g0, 0, none⟩, p' + 1, cp, es.set p' ((nodeCells y.k ⟨y.s.toArray⟩ ⟨y.nm.toArray⟩ b1 y.pipe.length d1 b2 y.body.length d2 b3 y.els.length d3 y.pos y.esc y.unit).set 1 (.string ⟨(y.s ++ z.s).toArray⟩)), xs.set p' ({ y with s := y.s ++ z.s } : NN (NT m)), by go_num, rfl, by omega, HPL.out, hide ((List.length_set).trans hxl.out), HY2, ?_⟩
              rw [bytes_cat]
              exact hide (And.intro (Chg.bel (by have C9 := HBel.out; (repeat' (first | with_reducible exact C9 | with_reducible exact Chg.refl _ _ | with_reducible refine Chg.alloc ?_ _ | with_reducible refine Chg.drew ?_ | with_reducible refine Chg.drewN ?_ _ | with_reducible refine Chg.set_ ?_ _ _ (by first | (simp; done) | (simp; omega) | omega))))) (And.intro ((HRow.out wr (Below.refl wr.heap.size wr)).below (NodeR.steady (m + 1)) (Chg.bel (by (repeat' (first | with_reducible exact Chg.refl _ _ | with_reducible refine Chg.alloc ?_ _ | with_reducible refine Chg.drew ?_ | with_reducible refine Chg.drewN ?_ _ | with_reducible refine Chg.set_ ?_ _ _ (by first | (simp; done) | (simp; omega) | omega)))))) hJ.out.2.2))
            case measure => simp [intOf]; omega
          · have hyf : (y.k == 1) = false := by simpa using hy1
            have HB := hide (show besideStep xs z = xs ++ [z] by unfold besideStep; rw [HT.out.2.2.1]; simp [hy1])
            have HYf := hide hy1
            clear hy1
            go_wp2_with (at_builtin; refine wpList_append_lies _ rfl _ _ 41 rfl N 61 i0 (.agg #[.int .i64 0, .string ⟨#[]⟩, .string ⟨#[]⟩, .slice none 0 0, .slice none 0 0, .slice none 0 0, .int .i64 0, .int .i64 0, .int .i64 0]) 9 136 Tryz.underlying41 hi hz0 hz1 hz2 rfl (by decide) (.slice (some ⟨g0, 0, none⟩) (p' + 1) cp) (p' + 1) _ rfl ((hownJ.alloc _).alloc _) ⟨wr.heap.size + 1, 0, none⟩ 1 1 [.int .i64 z.k, .string ⟨z.s.toArray⟩, .string ⟨z.nm.toArray⟩, .slice a1 z.pipe.length c1, .slice a2 z.body.length c2, .slice a3 z.els.length c3, .int .i64 z.pos, .int .i64 z.esc, .int .i64 z.unit] rfl rfl (by intro j u hj; match j, hj with | 0, hj => (simp at hj; subst hj; simp [Addr.add]) | 1, hj => (simp at hj; subst hj; simp [Addr.add]) | 2, hj => (simp at hj; subst hj; simp [Addr.add]) | 3, hj => (simp at hj; subst hj; simp [Addr.add]) | 4, hj => (simp at hj; subst hj; simp [Addr.add]) | 5, hj => (simp at hj; subst hj; simp [Addr.add]) | 6, hj => (simp at hj; subst hj; simp [Addr.add]) | 7, hj => (simp at hj; subst hj; simp [Addr.add]) | 8, hj => (simp at hj; subst hj; simp [Addr.add])) (by intro u hu; simp at hu; rcases hu with rfl | rfl | rfl | rfl | rfl | rfl | rfl | rfl | rfl <;> rfl) (by omega) (by have := HPL.out; unfold maxLen; omega) (by have := HPL.out; omega) (by simp; omega) _ rfl ?_)
            intro g4 cp4 w4 hown4 hgrow4 hat4 hlt4
            have hA := ((Below.refl wr.heap.size wr).alloc (Nat.le_refl _) (.cells #[.int .i64 z.k, .string ⟨z.s.toArray⟩, .string ⟨z.nm.toArray⟩, .slice a1 z.pipe.length c1, .slice a2 z.body.length c2, .slice a3 z.els.length c3, .int .i64 z.pos, .int .i64 z.esc, .int .i64 z.unit] 61)).alloc (by simp) (.cells #[.int .i64 z.k, .string ⟨z.s.toArray⟩, .string ⟨z.nm.toArray⟩, .slice a1 z.pipe.length c1, .slice a2 z.body.length c2, .slice a3 z.els.length c3, .int .i64 z.pos, .int .i64 z.esc, .int .i64 z.unit] 61)
            have hV : NodeR (m + 1) (besideB N (Value.slice (some ⟨g0, 0, none⟩) (p' + 1) cp).ownBlock) wr [.int .i64 z.k, .string ⟨z.s.toArray⟩, .string ⟨z.nm.toArray⟩, .slice a1 z.pipe.length c1, .slice a2 z.body.length c2, .slice a3 z.els.length c3, .int .i64 z.pos, .int .i64 z.esc, .int .i64 z.unit] z := NodeR.steady (m + 1) _ _ wr wr (stays_weaken (fun b _ hb => ⟨⟨hb.1.1, by obtain ⟨cs, t, h3⟩ := hb.1.2; exact ⟨cs, t, (hJ.out.1.block b hb.2).trans h3⟩⟩, fun e => by have := hJ.out.2.2 b e.symm; have := hb.2; omega⟩)) _ _ (NodeR.made HN.out.1 HN.out.2.1 HN.out.2.2)
            have hIn := hide (hJ.out.2.1.snocB (NodeR.steady (m + 1)) rfl hV hA hgrow4 (by rw [HEL.out]; exact hown4) (by rcases hat4 with q | q; exact .inl q; exact .inr (by simpa using q)))
            have hBn := hide ((hJ.out.1.trans (hA.mono hJ.out.1.size)).grown hgrow4 (by simp; omega) (fun q hq => hJ.out.2.2 q hq))
            have hQn : Hid (∀ q, (Value.slice (some ⟨g4, 0, none⟩) ((p' + 1) + 1) cp4).ownBlock = some q → w.heap.size ≤ q) := by
              intro q hq
              have hq : some g4 = some q := hq
              injection hq with hq
              subst hq
              rcases hat4 with h5 | h5
              · exact hJ.out.2.2 g4 h5
              · first | omega | (simp at h5; omega)
            rw [HEL.out] at hIn
            have hlen2 : (p' + 1) + 1 ≤ 1048576 := by
              have e1 : (besideStep xs z).length ≤ 0 + (l.take (j + 1)).length := hnx.out ▸ foldl_len (l.take (j + 1)) ([] : List (NN (NT m)))
              have e2 : (besideStep xs z).length = xs.length + 1 := (congrArg List.length HB.out).trans (List.length_append.trans rfl)
              have e3 : (l.take (j + 1)).length ≤ l.length := List.length_take_le' _ _
              have := hxl.out
              omega
            clear hown4 hgrow4 hat4 hV hA
            go_wp2_with fail
            go_roundw
            case rel => exact ⟨j + 1, some ⟨g4, 0, none⟩, (p' + 1) + 1, cp4, _, xs ++ [z], by go_num, rfl, by omega, hlen2, hide (by simp [hxl.out]), hide (by rw [← HB.out]; exact hnx.out), hide ⟨hBn.out, hIn.out, hQn.out⟩⟩
            case measure => simp [intOf]; omega
      · have hkf : (z.k == 1) = false := by simpa using hk
        have HB := hide (show besideStep xs z = xs ++ [z] by
          unfold besideStep
          cases hq : xs.getLast? with
          | none => rw [List.getLast?_eq_none_iff.1 hq]; rfl
          | some y => simp [hk])
        go_wp2_with (at_builtin; refine wpList_append_lies _ rfl _ _ 41 rfl N 61 i0 (.agg #[.int .i64 0, .string ⟨#[]⟩, .string ⟨#[]⟩, .slice none 0 0, .slice none 0 0, .slice none 0 0, .int .i64 0, .int .i64 0, .int .i64 0]) 9 136 Tryz.underlying41 hi hz0 hz1 hz2 rfl (by decide) (.slice A0 p cp) p _ rfl ((hownJ.alloc _).alloc _) ⟨wr.heap.size + 1, 0, none⟩ 1 1 [.int .i64 z.k, .string ⟨z.s.toArray⟩, .string ⟨z.nm.toArray⟩, .slice a1 z.pipe.length c1, .slice a2 z.body.length c2, .slice a3 z.els.length c3, .int .i64 z.pos, .int .i64 z.esc, .int .i64 z.unit] rfl rfl (by intro j u hj; match j, hj with | 0, hj => (simp at hj; subst hj; simp [Addr.add]) | 1, hj => (simp at hj; subst hj; simp [Addr.add]) | 2, hj => (simp at hj; subst hj; simp [Addr.add]) | 3, hj => (simp at hj; subst hj; simp [Addr.add]) | 4, hj => (simp at hj; subst hj; simp [Addr.add]) | 5, hj => (simp at hj; subst hj; simp [Addr.add]) | 6, hj => (simp at hj; subst hj; simp [Addr.add]) | 7, hj => (simp at hj; subst hj; simp [Addr.add]) | 8, hj => (simp at hj; subst hj; simp [Addr.add])) (by intro u hu; simp at hu; rcases hu with rfl | rfl | rfl | rfl | rfl | rfl | rfl | rfl | rfl <;> rfl) (by omega) (by have := HPL.out; unfold maxLen; omega) (by have := HPL.out; omega) (by simp; omega) _ rfl ?_)
        intro g4 cp4 w4 hown4 hgrow4 hat4 hlt4
        have hA := ((Below.refl wr.heap.size wr).alloc (Nat.le_refl _) (.cells #[.int .i64 z.k, .string ⟨z.s.toArray⟩, .string ⟨z.nm.toArray⟩, .slice a1 z.pipe.length c1, .slice a2 z.body.length c2, .slice a3 z.els.length c3, .int .i64 z.pos, .int .i64 z.esc, .int .i64 z.unit] 61)).alloc (by simp) (.cells #[.int .i64 z.k, .string ⟨z.s.toArray⟩, .string ⟨z.nm.toArray⟩, .slice a1 z.pipe.length c1, .slice a2 z.body.length c2, .slice a3 z.els.length c3, .int .i64 z.pos, .int .i64 z.esc, .int .i64 z.unit] 61)
        have hV : NodeR (m + 1) (besideB N (Value.slice A0 p cp).ownBlock) wr [.int .i64 z.k, .string ⟨z.s.toArray⟩, .string ⟨z.nm.toArray⟩, .slice a1 z.pipe.length c1, .slice a2 z.body.length c2, .slice a3 z.els.length c3, .int .i64 z.pos, .int .i64 z.esc, .int .i64 z.unit] z := NodeR.steady (m + 1) _ _ wr wr (stays_weaken (fun b _ hb => ⟨⟨hb.1.1, by obtain ⟨cs, t, h3⟩ := hb.1.2; exact ⟨cs, t, (hJ.out.1.block b hb.2).trans h3⟩⟩, fun e => by have := hJ.out.2.2 b e.symm; have := hb.2; omega⟩)) _ _ (NodeR.made HN.out.1 HN.out.2.1 HN.out.2.2)
        have hIn := hide (hJ.out.2.1.snocB (NodeR.steady (m + 1)) rfl hV hA hgrow4 (by rw [HEL.out]; exact hown4) (by rcases hat4 with q | q; exact .inl q; exact .inr (by simpa using q)))
        have hBn := hide ((hJ.out.1.trans (hA.mono hJ.out.1.size)).grown hgrow4 (by simp; omega) (fun q hq => hJ.out.2.2 q hq))
        have hQn : Hid (∀ q, (Value.slice (some ⟨g4, 0, none⟩) (p + 1) cp4).ownBlock = some q → w.heap.size ≤ q) := by
          intro q hq
          have hq : some g4 = some q := hq
          injection hq with hq
          subst hq
          rcases hat4 with h5 | h5
          · exact hJ.out.2.2 g4 h5
          · first | omega | (simp at h5; omega)
        rw [HEL.out] at hIn
        have hlen2 : p + 1 ≤ 1048576 := by
          have e1 : (besideStep xs z).length ≤ 0 + (l.take (j + 1)).length := hnx.out ▸ foldl_len (l.take (j + 1)) ([] : List (NN (NT m)))
          have e2 : (besideStep xs z).length = xs.length + 1 := (congrArg List.length HB.out).trans (List.length_append.trans rfl)
          have e3 : (l.take (j + 1)).length ≤ l.length := List.length_take_le' _ _
          have := hxl.out
          omega
        clear hown4 hgrow4 hat4 hV hA
        go_wp2_with fail
        go_roundw
        case rel => exact ⟨j + 1, some ⟨g4, 0, none⟩, p + 1, cp4, _, xs ++ [z], by go_num, rfl, by omega, hlen2, hide (by simp [hxl.out]), hide (by rw [← HB.out]; exact hnx.out), hide ⟨hBn.out, hIn.out, hQn.out⟩⟩
        case measure => simp [intOf]; omega
    · obtain rfl : j = l.length := by omega
      have hif : decide ((l.length : Int) < (l.length : Int)) = false := by simp
      have hxe : xs = besideL l := by rw [hxs.out, List.take_length]; rfl
      have hp := hxl.out
      subst hxe
      subst hp
      clear hjl hlt
      go_wp2_with fail
      go_ret
      exact ⟨A0, cp, es, rfl, hJ.out.2.1, hJ.out.1⟩
theorem beside_any (m N : Nat) (a : Option Addr) (c : Nat) (l : List (NN (NT m))) (w : World) (hN : N ≤ w.heap.size) (h : AtR (NodeR (m + 1)) 9 (freshB N) w a l) (hlen : l.length ≤ 1048576) (htx : sumBy (fun x : NN (NT m) => x.s.length) l ≤ 1048576) : Calls Tryz.prog 26 #[.slice a l.length c] w (BesideOf m N w l) :=
  beside_anyT m N a c l w hN h hlen (Nat.le_trans htx (by decide))
end Go.Proofs.YtnepogddjinpoaaGreatDoor
