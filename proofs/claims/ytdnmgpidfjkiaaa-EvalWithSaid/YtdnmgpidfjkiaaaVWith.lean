/-
  eval.With: slices.Clone and Clip at lists of named values.
-/
import Derived.Test.YtdnmgpidfjkiaaaVEnv
import Derived.Test.YtdnmgpidfjkiaaaQHead
import Derived.ArgAppend
import Derived.Lib.SliceRun
namespace Go.Proofs.Ytdnmgpidfjkiaaa
open Go.RowKit
set_option linter.unusedVariables false
set_option linter.unusedSimpArgs false

theorem flat6_inv (es : List NF) (t : Nat) (u : Value) (h : (es.flatMap NF.cells)[t]? = some u) : ∃ e, es[t / 6]? = some e ∧ e.cells[t % 6]? = some u := by
  have hlt := (List.getElem?_eq_some_iff.1 h).1
  rw [flat6_len] at hlt
  have hr : t / 6 < es.length := by omega
  refine ⟨es[t / 6], List.getElem?_eq_getElem hr, ?_⟩
  rw [← flat6_get es (t / 6) es[t / 6] (t % 6) (List.getElem?_eq_getElem hr) (Nat.mod_lt _ (by omega)), show t / 6 * 6 + t % 6 = t by omega]
  exact h
/-- The list of what lies behind named values. -/
theorem NamesAt.list {U : World → Nat → Prop} {w : World} {n : Nat} {a : Option Addr} {l : List (List UInt8 × VT n)} (h : NamesAt U w n a l) :
    ∃ es : List NF, es.length = l.length ∧ (∀ (r : Nat) (e : NF) (x : List UInt8 × VT n), es[r]? = some e → l[r]? = some x → IsN U w n e x) ∧ ∀ ad, a = some ad → ∀ t u, (es.flatMap NF.cells)[t]? = some u → w.cell? (ad.add t) = some u := by
  suffices H : ∀ k, k ≤ l.length → ∃ es : List NF, es.length = k ∧ ∀ (r : Nat) (e : NF), es[r]? = some e → ∃ x, l[r]? = some x ∧ IsN U w n e x ∧ ∃ b off, a = some ⟨b, off, none⟩ ∧ ∀ s u, e.cells[s]? = some u → w.cell? ⟨b, off + r * 6 + s, none⟩ = some u by
    obtain ⟨es, hlen, hes⟩ := H l.length (Nat.le_refl _)
    refine ⟨es, hlen, fun r e x he hx => ?_, fun ad ha t u ht => ?_⟩
    · obtain ⟨x', hx', hN, _⟩ := hes r e he
      rw [hx] at hx'
      injection hx' with hx'
      subst hx'
      exact hN
    · obtain ⟨e, he, hu⟩ := flat6_inv es t u ht
      obtain ⟨_, _, _, b, off, hb, hc⟩ := hes _ e he
      rw [ha] at hb
      injection hb with hb
      subst hb
      rw [Addr.add_lit, show off + t = off + t / 6 * 6 + t % 6 by omega]
      exact hc _ _ hu
  intro k
  induction k with
  | zero => exact fun _ => ⟨[], rfl, fun r e he => by simp at he⟩
  | succ k ih =>
    intro hk
    obtain ⟨es, hlen, hes⟩ := ih (by omega)
    obtain ⟨b, off, e, ha, _, _, h0, ⟨f0, f1, f2, f3, f4⟩, hN⟩ := h k l[k] (List.getElem?_eq_getElem (by omega))
    refine ⟨es ++ [e], by simp [hlen], fun r e' he => ?_⟩
    rcases Nat.lt_or_ge r es.length with hr | hr
    · rw [List.getElem?_append_left hr] at he
      exact hes r e' he
    · obtain rfl : r = es.length := by
        have := (List.getElem?_eq_some_iff.1 he).1
        simp at this; omega
      rw [List.getElem?_append_right (Nat.le_refl _)] at he
      simp at he
      subst he
      subst hlen
      refine ⟨l[es.length], List.getElem?_eq_getElem (by omega), hN, b, off, ha, fun s u hu => ?_⟩
      match s, hu with
      | 0, hu => simp [NF.cells] at hu; subst hu; exact h0
      | 1, hu => simp [NF.cells] at hu; subst hu; exact f0
      | 2, hu => simp [NF.cells] at hu; subst hu; exact f1
      | 3, hu => simp [NF.cells] at hu; subst hu; exact f2
      | 4, hu => simp [NF.cells] at hu; subst hu; exact f3
      | 5, hu => simp [NF.cells] at hu; subst hu; exact f4
theorem flat6_one (es : List NF) : ∀ u ∈ es.flatMap NF.cells, u.oneCell' = true := by
  intro u hu
  obtain ⟨e, _, he⟩ := List.mem_flatMap.1 hu
  simp [NF.cells] at he
  rcases he with rfl | rfl | rfl | rfl | rfl | rfl <;> rfl
set_option maxHeartbeats 2000000 in
set_option maxRecDepth 100000 in
theorem cloneN_any (a : Option Addr) (n c : Nat) (cells : List Value) (w : World) (hl : cells.length = n * 6) (hbig : n * 96 ≤ 140737488355328) (h1 : ∀ u ∈ cells, u.oneCell' = true) (hn : a = none → n = 0) (hc : ∀ ad, a = some ad → ∀ j u, cells[j]? = some u → w.cell? (ad.add j) = some u) :
    Calls Try.prog 28 #[.slice a n c] w fun e w' => ∃ v', e = .returned v' ∧ w'.ownsRow w.heap.size 58 6 v' n cells ∧ Below w.heap.size w w' := by
  obtain ⟨j0, hj, hv0, hv1, hv2⟩ := info_parts info_named
  have q30 : ∀ (w : World) (a : Option Addr) (n c n' c' : Nat), (binOp .eql 30 (.slice a n c) (.slice none n' c')).run Try.prog w = .ok (.bool a.isNone) w := fun w a n c n' c' => Lib.run_eql_slice_nil w _ _ a n c n' c' Try.underlying30
  cases a with
  | none =>
    obtain rfl := hn rfl
    obtain rfl : cells = [] := List.eq_nil_of_length_eq_zero (by simpa using hl)
    clear hc hn h1
    go_enter Try.func28, Try.ntmps28
    go_wp2
    go_ret
    exact ⟨_, rfl, World.ownsRow_nil _ _ _ _, Below.refl _ _⟩
  | some ad =>
    have HC := hide (hc ad rfl); have H1 := hide h1
    clear hc hn h1
    go_enter Try.func28, Try.ntmps28
    go_wp2_with (at_builtin; refine wpList_append_own _ rfl _ _ 30 rfl w.heap.size 58 j0 (.agg #[.string ⟨#[]⟩, .int .i64 0, .int .i64 0, .string ⟨#[]⟩, .slice none 0 0, .slice none 0 0]) 6 96 Try.underlying30 hj hv0 hv1 hv2 rfl (by decide) _ _ _ rfl (World.ownsRow_made w #[] 0 (Nat.le_refl _) (Nat.zero_le _) rfl) ad n c cells rfl ?qc1 ?qc2 ?qc3 ?qc4 ?qc5 ?qc6 ?_)
    case qc1 => exact hl
    case qc2 => intro j u hu; exact Lib.cell?_alloc_some _ (HC.out j u hu)
    case qc3 => exact H1.out
    case qc4 => unfold maxLen; omega
    case qc5 => omega
    case qc6 => simp
    intro v' w1 hown hgrow hnil
    go_wp2
    go_ret
    refine ⟨v', rfl, by simpa using hown, ?_⟩
    exact ((Below.refl _ w).alloc (Nat.le_refl _) _).grown hgrow (by simp) (by intro k hk; simp [Value.ownBlock] at hk; omega)
theorem clipN_any (a : Option Addr) (n c : Nat) (w : World) (hn : n ≤ c) (h0 : a = none → c = 0) :
    Calls Try.prog 27 #[.slice a n c] w fun e w' => e = .returned (.slice a n n) ∧ w' = w := by
  cases a with
  | none =>
    obtain rfl := h0 rfl
    obtain rfl : n = 0 := by omega
    go_enter Try.func27, Try.ntmps27
    go_wp2
    go_ret
    exact ⟨rfl, rfl⟩
  | some ad =>
    go_enter Try.func27, Try.ntmps27
    go_wp2
    go_ret
    exact ⟨rfl, rfl⟩
theorem own_capV {w : World} {base n size : Nat} {e : TypeId} {A : Option Addr} {c : Nat} {xs : List Value} (h : w.ownsRow base e size (.slice A n c) n xs) :
    n ≤ c ∧ (A = none → n = 0 ∧ c = 0) ∧ ∀ ad, A = some ad → ∀ t u, xs[t]? = some u → (ad.add t).block < w.heap.size ∧ w.cell? (ad.add t) = some u := by
  rcases h.2 with ⟨h1, h2⟩ | ⟨g, cap, cur, h1, h2, h3, h4, _⟩
  · injection h1 with e1 e2 e3
    subst e1; subst e2; subst e3
    exact ⟨Nat.le_refl _, fun _ => ⟨rfl, rfl⟩, fun ad ha => by cases ha⟩
  · injection h1 with e1 e2 e3
    subst e1; subst e3
    refine ⟨h4, (fun e => by cases e), fun ad ha t u ht => ?_⟩
    injection ha with ha
    subst ha
    have := h.cells (g := g) rfl t u ht
    rw [zaddV] at this ⊢
    exact ⟨(Array.getElem?_eq_some_iff.1 h3).1, this⟩
theorem own_heapV {w w' : World} {base n size : Nat} {e : TypeId} {v : Value} {xs : List Value} (h : w.ownsRow base e size v n xs) (hs : ∀ b, base ≤ b → w'.heap[b]? = w.heap[b]?) : w'.ownsRow base e size v n xs := by
  obtain ⟨h1, h2 | ⟨g, cap, cur, e1, e2, e3, h3⟩⟩ := h
  · exact ⟨h1, .inl h2⟩
  · exact ⟨h1, .inr ⟨g, cap, cur, e1, e2, (hs g e2).trans e3, h3⟩⟩
theorem names_row {U : World → Nat → Prop} {n base : Nat} {w : World} {v : Value} {es : List NF} {xs : List (List UInt8 × VT n)} {A : Option Addr} {m c : Nat} (hown : w.ownsRow base 58 6 v es.length (es.flatMap NF.cells)) (hl : es.length = xs.length) (hv : v = .slice A m c) (hF : ∀ b, freshB base w b → U w b)
    (hN : ∀ (r : Nat) (e : NF) (x : List UInt8 × VT n), es[r]? = some e → xs[r]? = some x → IsN U w n e x) : NamesAt U w n A xs := by
  intro r x hx
  have hr := (List.getElem?_eq_some_iff.1 hx).1
  obtain ⟨e, he⟩ : ∃ e, es[r]? = some e := ⟨_, List.getElem?_eq_getElem (by rw [hl]; exact hr)⟩
  obtain ⟨g, cap, cur, hv2, hbg, hg⟩ : ∃ g cap cur, v = .slice (some ⟨g, 0, none⟩) es.length cap ∧ base ≤ g ∧ w.heap[g]? = some (.cells cur 58) := by
    rcases hown.2 with ⟨_, h1⟩ | ⟨g, cap, cur, hv2, hb, hg, _⟩
    · rw [hl] at h1; omega
    · exact ⟨g, cap, cur, hv2, hb, hg⟩
  rw [hv] at hv2
  injection hv2 with hA _ _
  have hlt : g < w.heap.size := (Array.getElem?_eq_some_iff.1 hg).1
  have hc : ∀ t u, e.cells[t]? = some u → w.cell? ⟨g, 0 + r * 6 + t, none⟩ = some u := by
    intro t u hu
    have ht : t < 6 := by have := (List.getElem?_eq_some_iff.1 hu).1; rw [e.cells_len] at this; exact this
    have := hown.cells (g := g) (by rw [hv, hA]; rfl) (r * 6 + t) u ((flat6_get es r e t he ht).trans hu)
    rw [zaddV] at this
    rw [Nat.zero_add]; exact this
  exact ⟨g, 0, e, hA, hlt, hF g ⟨hbg, cur, _, hg⟩, hc 0 _ rfl, ⟨hc 1 _ rfl, hc 2 _ rfl, hc 3 _ rfl, hc 4 _ rfl, hc 5 _ rfl⟩, hN r e x he hx⟩
theorem with_done {U : World → Nat → Prop} (hU : ∀ w w' b, Below w.heap.size w w' → b < w.heap.size → U w b → U w' b) {w w2 w3 w4 : World} {m : Nat} {r d : VF} {a : Option Addr} {root dot : VT m} {vars : List (List UInt8 × VT m)} (hF : ∀ w' b, freshB w.heap.size w' b → U w' b)
    (hE : IsE U w m r d a root dot vars) {es : List NF} (hes : es.length = vars.length) (hN : ∀ (r : Nat) (e : NF) (x : List UInt8 × VT m), es[r]? = some e → vars[r]? = some x → IsN U w m e x)
    {nm : List UInt8} {ev : VF} {x : VT m} (hX : IsV (freshB (w.heap.size + 3)) w2 m ev.val x) (h23 : Below w2.heap.size w2 w3) (hB : Below w.heap.size w w3) (hz : w.heap.size + 3 ≤ w3.heap.size) {v4 : Value}
    (hown : w4.ownsRow w3.heap.size 58 6 v4 (es.length + 1) (es.flatMap NF.cells ++ NF.cells ⟨⟨nm.toArray⟩, ev⟩)) (hg : w3.grownBy w4 none) (u v0 v1 v2 v3 v4' v5 v6 v7 v8 v9 v10 : Value) :
    ∃ A c', v4 = .slice A (vars.length + 1) c' ∧ IsE U (set11 (w4.setCell ⟨w.heap.size, 10, none⟩ u) (w.heap.size + 1 + 1) v0 v1 v2 v3 v4' v5 v6 v7 v8 v9 v10) m r d A root dot (vars ++ [(nm, x)]) ∧ Below w.heap.size w (set11 (w4.setCell ⟨w.heap.size, 10, none⟩ u) (w.heap.size + 1 + 1) v0 v1 v2 v3 v4' v5 v6 v7 v8 v9 v10) := by
  have hB4 : Below w.heap.size w w4 := hB.grown hg (by omega) (fun k hk => by cases hk)
  have hB7 : Below w.heap.size w (set11 (w4.setCell ⟨w.heap.size, 10, none⟩ u) (w.heap.size + 1 + 1) v0 v1 v2 v3 v4' v5 v6 v7 v8 v9 v10) := set11_below (hB4.setCell (p := ⟨w.heap.size, 10, none⟩) (Nat.le_refl _) u) (by omega) _ _ _ _ _ _ _ _ _ _ _
  have hz7 := set11_size (w4.setCell ⟨w.heap.size, 10, none⟩ u) (w.heap.size + 1 + 1) v0 v1 v2 v3 v4' v5 v6 v7 v8 v9 v10
  have hh : ∀ b, w.heap.size + 3 ≤ b → (set11 (w4.setCell ⟨w.heap.size, 10, none⟩ u) (w.heap.size + 1 + 1) v0 v1 v2 v3 v4' v5 v6 v7 v8 v9 v10).heap[b]? = w4.heap[b]? := fun b hb =>
    (set11_heap _ _ _ _ _ _ _ _ _ _ _ _ _ b (by omega)).trans (Below.heap_setCell w4 ⟨w.heap.size, 10, none⟩ u b (by show b ≠ w.heap.size; omega))
  generalize set11 (w4.setCell ⟨w.heap.size, 10, none⟩ u) (w.heap.size + 1 + 1) v0 v1 v2 v3 v4' v5 v6 v7 v8 v9 v10 = w7 at hB7 hz7 hh ⊢
  simp at hz7
  obtain ⟨A, c', hv⟩ := own_sliceV hown
  have hst : Stays U U w w7 := Stays.of_below hB7 fun b h1 => hU _ _ b hB7 h1
  have hown7 : w7.ownsRow w3.heap.size 58 6 v4 (es ++ [(⟨⟨nm.toArray⟩, ev⟩ : NF)]).length ((es ++ [(⟨⟨nm.toArray⟩, ev⟩ : NF)]).flatMap NF.cells) := by
    have := own_heapV hown (w' := w7) (fun b hb => hh b (by omega))
    simpa using this
  refine ⟨A, c', by rw [hv, hes], ⟨IsV.on hst m _ _ hE.root, IsV.on hst m _ _ hE.dot, names_row hown7 (by simp [hes]) hv (fun b ⟨h1, h2⟩ => hF _ b ⟨by omega, h2⟩) ?_⟩, hB7⟩
  intro k e y he hy
  rcases Nat.lt_or_ge k es.length with hr | hr
  · rw [List.getElem?_append_left hr] at he
    rw [List.getElem?_append_left (by rw [← hes]; exact hr)] at hy
    exact IsN.on hst (hN k e y he hy)
  · obtain rfl : k = es.length := by
      have := (List.getElem?_eq_some_iff.1 he).1
      simp at this; omega
    rw [List.getElem?_append_right (Nat.le_refl _)] at he
    rw [List.getElem?_append_right (by omega)] at hy
    simp [hes] at he hy
    subst he; subst hy
    refine ⟨rfl, IsV.on (U := freshB (w.heap.size + 3)) ⟨by have := h23.size; have := hg.size; omega, ?_⟩ m _ _ hX⟩
    rintro b h1 ⟨h2, cs, t, h3⟩
    have e7 : w7.heap[b]? = w2.heap[b]? := (hh b h2).trans ((hg.block b (Nat.lt_of_lt_of_le h1 h23.size) (fun e => by cases e)).trans (h23.block b h1))
    exact ⟨e7, hF _ b ⟨by omega, cs, t, e7.trans h3⟩⟩
end Go.Proofs.Ytdnmgpidfjkiaaa
