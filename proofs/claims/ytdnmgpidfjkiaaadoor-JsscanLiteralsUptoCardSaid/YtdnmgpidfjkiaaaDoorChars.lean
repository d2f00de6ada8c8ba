/-
  utf.Chars: slices.Collect of utf.each.
-/
import Derived.Test.YtdnmgpidfjkiaaaDoorRepair
import Derived.Test.YtdnmgpidfjkiaaaDoorM5
namespace Go.Proofs.YtdnmgpidfjkiaaaDoor
open Go.RowKit Go.Shelf
attribute [local go_sem] Oper.semAt_some
set_option linter.unusedVariables false
set_option linter.unusedSimpArgs false

/-- What AppendSeq keeps between two rounds: the box at Bs holds a slice that owns what has come. -/
def AppI (wB : World) (Bs p : Nat) (pre : List Int) (W : World) : Prop :=
  (∃ v, Blk W Bs 41 #[v] ∧ W.ownsRow wB.heap.size 3 1 v pre.length (ints pre)) ∧ Below wB.heap.size wB W ∧ ∃ u, Blk W p 9 #[u]
theorem own_noncell {U V : World} {B n : Nat} {e : TypeId} {v : Value} {xs : List Value} {row : Option Nat} (h : U.ownsRow B e 1 v n xs) (hg : U.grownBy V row) (hr : ∀ r, row = some r → ∃ o : Obj, U.heap[r]? = some o ∧ ∀ c t fz, o ≠ .cells c t fz) : V.ownsRow B e 1 v n xs := by
  refine h.kept hg ?_
  rcases h.2 with ⟨rfl, _⟩ | ⟨g, cap, cur, rfl, _, hg', _⟩
  · exact .inl rfl
  · right
    intro e2
    obtain ⟨o, ho, hc⟩ := hr g e2.symm
    rw [hg'] at ho
    exact hc _ _ _ (Option.some.inj ho).symm
theorem own_setFar {U : World} {B n p : Nat} {e T : TypeId} {v : Value} {xs : List Value} {cs : Array Value} (h : U.ownsRow B e 1 v n xs) (hp : Blk U p T cs) (hT : T ≠ e) (u : Value) : (U.setCell ⟨p, 0, none⟩ u).ownsRow B e 1 v n xs := by
  refine ⟨h.1, ?_⟩
  rcases h.2 with hn | ⟨g, cap, cur, hv, hB2, hg', rest⟩
  · exact .inl hn
  · refine .inr ⟨g, cap, cur, hv, hB2, (Below.heap_setCell U ⟨p, 0, none⟩ u g ?_).trans hg', rest⟩
    intro e2
    have e' : g = p := e2
    subst e'
    unfold Blk at hp
    rw [hg'] at hp
    injection hp with hp
    injection hp with h1 h2 h3
    exact hT h2.symm
set_option maxHeartbeats 4000000 in
set_option maxRecDepth 100000 in
theorem appendSeq_in (l : List UInt8) (hz : l.length ≤ 1000000000) (wB w : World) (hT : Lib.Utf8Tabs 3 4 wB) (p : Nat) (hp : wB.heap.size ≤ p) (hpw : p < w.heap.size) (hB0 : Below wB.heap.size wB w) (hbox : Blk w p 9 #[.string ⟨l.toArray⟩]) :
    CallsIn Fence.wide 6 Tryd.prog 121 #[.slice none 0 0, .func (.func 122) #[] #[.pointer (some ⟨p, 0, none⟩)]] w fun e w' => ∃ v, e = .returned v ∧ w'.ownsRow wB.heap.size 3 1 v (charsR l).length (ints (charsR l)) ∧ Below wB.heap.size wB w' := by
  obtain ⟨i0, hi, hz0, hz1, hz2⟩ := info_parts info_i64
  have hcl := charsR_len l
  refine callsIn_of_wp_marks Tryd.func121 rfl trivial ?_
  simp only [Tryd.ntmps121, List.size_toArray, List.length_cons, List.length_nil, Nat.reduceAdd, Nat.reduceSub, Array.replicate_succ, Array.replicate_zero, List.push_toArray, List.append_toArray, List.nil_append, List.cons_append]
  gi_wp2
  obtain ⟨w2, hw2⟩ : ∃ W, w.alloc (Obj.cells #[Value.slice none 0 0] 41) = W := ⟨_, rfl⟩
  rw [hw2]
  have hsz : w2.heap.size = w.heap.size + 1 := by rw [← hw2]; simp
  have hBw := hB0.size
  have hB2 : Below wB.heap.size wB w2 := by rw [← hw2]; exact hB0.alloc hB0.size _
  have hbox2 : Blk w2 p 9 #[.string ⟨l.toArray⟩] := by rw [← hw2]; exact (Below.heap_alloc _ _ p hpw).trans hbox
  have hbs : Blk w2 w.heap.size 41 #[.slice none 0 0] := by
    have := Blk.new w 41 #[Value.slice none 0 0]
    rw [hw2] at this
    exact this
  clear hw2
  refine wpIn_range_stores rfl (by omega) (gf := 122) (lb := #[.pointer (some ⟨p, 0, none⟩)]) rfl trivial (enters_of Tryd.func122 (by kernel_rfl) rfl)
    (each_stores 5 (by omega) p l hz wB w2 hT hB2 hp hbox2) (by omega) (Below.refl _ _) ?kt ?kb (AppI wB w.heap.size p) ?own ?sto ⟨⟨_, hbs, World.ownsRow_nil _ _ _ _⟩, hB2, _, hbox2⟩
    (fun x => { tmps := #[.slice none 0 0, .func (.func 122) #[] #[.pointer (some ⟨p, 0, none⟩)], .pointer (some ⟨w.heap.size, 0, none⟩), undef, .slice none 0 0, .int .i64 x, .func (.func 122) #[] #[.pointer (some ⟨p, 0, none⟩)], .int .i64 x, undef, undef, undef, undef, undef], defers := [] }) ?assign ?body ?done
  case kt => exact fun k1 k2 => ⟨k2.1.trans k1.1, k1.2.trans k2.2⟩
  case kb =>
    intro W i o o' hi ho
    have := lt_of_heap ho
    exact ⟨World.putObj_heap_other (by omega), (Below.refl _ W).grown (grownBy_putObj' W i o') (by omega) (fun k e => by cases e; omega)⟩
  case own =>
    rintro s U V row ⟨⟨v, h1, h1'⟩, h2, u, h3⟩ hg hr
    have hr' : ∀ r, row = some r → ∃ o : Obj, U.heap[r]? = some o ∧ ∀ c t fz, o ≠ .cells c t fz := fun r e => by
      obtain ⟨_, o, ho, hc⟩ := hr r e
      exact ⟨o, ho, fun c t fz e2 => by rw [e2] at hc; cases hc⟩
    refine ⟨⟨v, h1.grown hg ?_, own_noncell h1' hg hr'⟩, h2.grown hg h2.size (fun k e => by have := (hr k e).1; omega), u, h3.grown hg ?_⟩
    · intro e
      have := (hr _ e.symm).1
      omega
    · intro e
      have := (hr _ e.symm).1
      omega
  case sto =>
    rintro s U v ⟨⟨v0, h1, h1'⟩, h2, u, h3⟩
    exact ⟨⟨v0, (Below.heap_setCell U ⟨p, 0, none⟩ v w.heap.size (by show w.heap.size ≠ p; omega)).trans h1, own_setFar h1' h3 (by decide) v⟩, h2.setCell (p := ⟨p, 0, none⟩) hp v, _, h3.set_ 0 v⟩
  case assign =>
    intro lp x W K hK
    gi_wp2
    exact hK
  case body =>
    rintro lp pre x rest W hx ⟨⟨v, hbx, hown⟩, hbw, u, hblk⟩
    have hpl : pre.length + 1 ≤ 1000000000 := by
      have := congrArg List.length hx
      simp at this
      omega
    have hc := hbx.cell 0
    have hf := hbx.frozen 0
    simp at hc
    have hwz := hbw.size
    gi_wp2_with (gi_at_builtin; refine wpListIn_append_own _ rfl _ _ 41 rfl wB.heap.size 3 i0 (.int .i64 0) 1 8 Tryd.underlying41 hi hz0 hz1 hz2 rfl (by decide) _ _ _ rfl (hown.alloc _) ⟨W.heap.size, 0, none⟩ 1 1 [.int .i64 x] rfl rfl (by intro j u hj; match j, hj with | 0, hj => simp at hj; subst hj; simp [Addr.add]) (by intro u hu; simp at hu; subst hu; rfl) (by unfold maxLen; omega) (by omega) (by simp; omega) ?_)
    intro v' w3 hown' hgrow _
    have hne1 := own_block_ne hown hbx (fun c fz e => by injection e with e1 e2 e3; exact absurd e2 (by decide))
    have hne2 := own_block_ne hown hblk (fun c fz e => by injection e with e1 e2 e3; exact absurd e2 (by decide))
    have hbx3 : Blk w3 w.heap.size 41 #[v] := (hgrow.block _ (by have := lt_of_heap hbx; simp; omega) (fun e => hne1 e.symm)).trans ((Below.heap_alloc _ _ _ (lt_of_heap hbx)).trans hbx)
    have hb3 : Below wB.heap.size W w3 := ((Below.refl _ W).alloc hwz _).grown hgrow (by simp; omega) (fun k e => (hown.lt k e).1)
    have hc3 := hbx3.cell 0
    have hf3 := hbx3.frozen 0
    simp at hc3
    have hold : ∀ (k : Nat) (o : Obj), W.heap[k]? = some o → (∀ c fz, o ≠ .cells c 3 fz) → w3.heap[k]? = some o := fun k o hk ho =>
      (hgrow.block k (by have := lt_of_heap hk; simp; omega) (fun e => own_block_ne hown hk ho e.symm)).trans ((Below.heap_alloc _ _ k (lt_of_heap hk)).trans hk)
    have hpB : p ≠ w.heap.size := by omega
    obtain ⟨g', cap', rfl⟩ : ∃ g' cap', v' = .slice (some ⟨g', 0, none⟩) (pre.length + 1) cap' := by
      rcases hown'.2 with ⟨_, h0⟩ | ⟨g', cap', cur', hv', _⟩
      · exact absurd h0 (by simp)
      · exact ⟨g', cap', hv'⟩
    gi_wp2
    have hblk3 : Blk w3 p 9 #[u] := hold p _ hblk (fun c fz e => by injection e with e1 e2 e3; exact absurd e2 (by decide))
    have hset : ∀ k, k ≠ w.heap.size → (w3.setCell ⟨w.heap.size, 0, none⟩ (.slice (some ⟨g', 0, none⟩) (pre.length + 1) cap')).heap[k]? = w3.heap[k]? := fun k hk => Below.heap_setCell w3 ⟨w.heap.size, 0, none⟩ (.slice (some ⟨g', 0, none⟩) (pre.length + 1) cap') k hk
    refine ⟨fun k o hk ho => (hset k ?_).trans (hold k o hk (fun c fz e => by rw [e] at ho; cases ho)), ⟨(hset p hpB).trans (hblk3.trans hblk.symm), hb3.setCell (p := ⟨w.heap.size, 0, none⟩) hBw _⟩, ⟨⟨(.slice (some ⟨g', 0, none⟩) (pre.length + 1) cap'), by simpa using hbx3.set_ 0 (.slice (some ⟨g', 0, none⟩) (pre.length + 1) cap'), ?_⟩, (hbw.trans (hb3.mono (Nat.le_refl _))).setCell (p := ⟨w.heap.size, 0, none⟩) hBw _, u, (hset p hpB).trans hblk3⟩⟩
    · intro e
      subst e
      rw [hbx] at hk
      cases hk; cases ho
    · have h5 : w3.ownsRow wB.heap.size 3 1 (.slice (some ⟨g', 0, none⟩) (pre.length + 1) cap') (pre ++ [x]).length (ints (pre ++ [x])) := by simpa [ints] using hown'
      exact own_setFar h5 hbx3 (by decide) (.slice (some ⟨g', 0, none⟩) (pre.length + 1) cap')
  case done =>
    rintro D W hD ⟨⟨v, hbx, hown⟩, hbw, u, hblk⟩ hK
    have hc := hbx.cell 0
    have hf := hbx.frozen 0
    simp at hc
    gi_wp2
    refine ⟨by simp, .inl ⟨_, _, rfl, run_takeDeferred hK, ?_⟩⟩
    have hlt := lt_of_heap hK
    refine ⟨_, results_tmp rfl _ _ _, _, rfl, ?_, hbw.grown (grownBy_putObj' W D _) (by have := hbw.size; omega) (fun k e => by cases e; omega)⟩
    exact own_noncell hown (grownBy_putObj' W D _) (fun r e => by cases e; exact ⟨_, hK, fun c t fz e => by cases e⟩)
set_option maxHeartbeats 1000000 in
set_option maxRecDepth 100000 in
theorem chars_any (l : List UInt8) (w : World) (hz : l.length ≤ 1000000000) (hT : Lib.Utf8Tabs 3 4 w) :
    Calls Tryd.prog 61 #[.string ⟨l.toArray⟩] w fun e w' => ∃ v, e = .returned v ∧ w'.ownsRow w.heap.size 3 1 v (charsR l).length (ints (charsR l)) ∧ Below w.heap.size w w' := by
  refine (callsIn_wide (n := 6)).1 ?_
  have hbox : Blk (w.alloc (.cells #[.string ⟨l.toArray⟩] 9)) w.heap.size 9 #[.string ⟨l.toArray⟩] := Blk.new w 9 #[.string ⟨l.toArray⟩]
  have hB := (Below.refl w.heap.size w).alloc (Nat.le_refl _) (.cells #[.string ⟨l.toArray⟩] 9)
  have cA := hide (appendSeq_in l hz w _ hT w.heap.size (Nat.le_refl _) (by simp) hB hbox)
  refine callsIn_of_wp Tryd.func61 rfl trivial ?_ rfl
  simp only [Tryd.ntmps61, List.size_toArray, List.length_cons, List.length_nil, Nat.reduceAdd, Nat.reduceSub, Array.replicate_succ, Array.replicate_zero, List.push_toArray, List.append_toArray, List.nil_append, List.cons_append]
  gi_wp2_with (refine ⟨trivial, ?_⟩; gi_at_call 94; refine (utfEach_in _ l _).mono ?_)
  rintro e w1 ⟨rfl, rfl⟩
  have cC : CallsIn Fence.wide 6 Tryd.prog 93 #[.func (.func 122) #[] #[.pointer (some ⟨w.heap.size, 0, none⟩)]] (w.alloc (.cells #[.string ⟨l.toArray⟩] 9)) fun e w' => ∃ v, e = .returned v ∧ w'.ownsRow w.heap.size 3 1 v (charsR l).length (ints (charsR l)) ∧ Below w.heap.size w w' := by
    refine callsIn_of_wp Tryd.func93 rfl trivial ?_ rfl
    simp only [Tryd.ntmps93, List.size_toArray, List.length_cons, List.length_nil, Nat.reduceAdd, Nat.reduceSub, Array.replicate_succ, Array.replicate_zero, List.push_toArray, List.append_toArray, List.nil_append, List.cons_append]
    gi_wp2_with (refine ⟨trivial, ?_⟩; gi_at_call 121; refine (callsIn_wide.2 ((callsIn_wide (n := 6)).1 cA.out)).mono ?_)
    rintro e w1 ⟨v, rfl, hown, hb⟩
    gi_wp2
    go_ret
    exact ⟨_, rfl, hown, hb⟩
  have cC := hide cC
  gi_wp2_with (refine ⟨trivial, ?_⟩; gi_at_call 93; refine (callsIn_wide.2 ((callsIn_wide (n := 6)).1 cC.out)).mono ?_)
  rintro e w1 ⟨v, rfl, hown, hb⟩
  gi_wp2
  go_ret
  exact ⟨_, rfl, hown, hb⟩
end Go.Proofs.YtdnmgpidfjkiaaaDoor
