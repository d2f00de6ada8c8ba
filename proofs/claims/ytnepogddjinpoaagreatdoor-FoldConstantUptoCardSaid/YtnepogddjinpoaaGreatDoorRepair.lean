/-
  utf.Repair.
-/
import Derived.Test.YtnepogddjinpoaaGreatDoorEach
namespace Go.Proofs.YtnepogddjinpoaaGreatDoor
open Go.RowKit Go.Shelf
attribute [local go_sem] Oper.semAt_some
set_option linter.unusedVariables false
set_option linter.unusedSimpArgs false

set_option maxHeartbeats 1000000 in
theorem utfEach_in (n : Nat) (l : List UInt8) (w : World) :
    CallsIn Fence.wide n Tryz.prog 164 #[.string ⟨l.toArray⟩] w fun e w' => e = .returned (.func (.func 207) #[] #[.pointer (some ⟨w.heap.size, 0, none⟩)]) ∧ w' = w.alloc (.cells #[.string ⟨l.toArray⟩] 9) := by
  refine callsIn_of_wp Tryz.func164 rfl trivial ?_ rfl
  simp only [Tryz.ntmps164, List.size_toArray, List.length_cons, List.length_nil, Nat.reduceAdd, Nat.reduceSub, Array.replicate_succ, Array.replicate_zero, List.push_toArray, List.append_toArray, List.nil_append, List.cons_append]
  gi_wp2
  go_ret
  exact ⟨rfl, rfl⟩
/-- What Repair keeps between two rounds. -/
def RepI (w : World) (pre : List Int) (W : World) : Prop :=
  IsBT 184 w.heap.size w.heap.size (pre.flatMap encL) W ∧ Below w.heap.size w W ∧ ∃ v, Blk W (w.heap.size + 1) 9 #[v]
theorem isBT_grown {T : TypeId} (hT : BT T) {B b : Nat} {l : List Value} {U V : World} {row : Option Nat} (h : Lib.IsBuilder T 5 B b l U) (hg : U.grownBy V row) (hr : ∀ r, row = some r → ∃ o : Obj, U.heap[r]? = some o ∧ ∀ c t fz, o ≠ .cells c t fz) : Lib.IsBuilder T 5 B b l V := by
  have key : ∀ p, Lib.BuilderAt T 5 B b p l U → Lib.BuilderAt T 5 B b p l V := by
    rintro p ⟨hB, v, hb, hown, hne⟩
    refine ⟨hB, v, ?_, hown.kept hg ?_, hne⟩
    · refine (hg.block b (lt_of_heap hb) ?_).trans hb
      intro e
      obtain ⟨o, ho, hc⟩ := hr b e.symm
      rw [hb] at ho
      exact hc _ _ _ (Option.some.inj ho).symm
    · rcases hown.2 with ⟨rfl, _⟩ | ⟨g, cap, cur, rfl, _, hg', _⟩
      · exact .inl rfl
      · right
        intro e
        obtain ⟨o, ho, hc⟩ := hr g e.symm
        rw [hg'] at ho
        exact hc _ _ _ (Option.some.inj ho).symm
  exact h.imp (key _) (key _)
theorem isBT_far {T : TypeId} {B b p : Nat} {l : List Value} {U : World} {T2 : TypeId} {cs : Array Value} (h : Lib.IsBuilder T 5 B b l U) (hp : Blk U p T2 cs) (hT2 : T2 ≠ 5) (hpb : p ≠ b) (v : Value) : Lib.IsBuilder T 5 B b l (U.setCell ⟨p, 0, none⟩ v) := by
  have key : ∀ q, Lib.BuilderAt T 5 B b q l U → Lib.BuilderAt T 5 B b q l (U.setCell ⟨p, 0, none⟩ v) := by
    rintro q ⟨hB, u, hb, hown, hne⟩
    refine ⟨hB, u, (Below.heap_setCell U ⟨p, 0, none⟩ v b (fun e => hpb e.symm)).trans hb, ⟨hown.1, ?_⟩, hne⟩
    rcases hown.2 with hn | ⟨g, cap, cur, hv, hB2, hg', rest⟩
    · exact .inl hn
    · refine .inr ⟨g, cap, cur, hv, hB2, (Below.heap_setCell U ⟨p, 0, none⟩ v g ?_).trans hg', rest⟩
      intro e
      have e' : g = p := e
      subst e'
      unfold Blk at hp
      rw [hg'] at hp
      injection hp with hp
      injection hp with h1 h2 h3
      exact hT2 h2.symm
  exact h.imp (key _) (key _)
set_option maxHeartbeats 4000000 in
set_option maxRecDepth 100000 in
theorem utfRepair_any (l : List UInt8) (w : World) (hz : l.length ≤ 1000000000) (hT : Lib.Utf8Tabs 1 2 w) :
    Calls Tryz.prog 125 #[.string ⟨l.toArray⟩] w fun e w' => e = .returned (.string ⟨(repairR l).toArray⟩) ∧ Below w.heap.size w w' := by
  refine (callsIn_wide (n := 6)).1 ?_
  refine callsIn_of_wp_marks Tryz.func125 rfl trivial ?_
  simp only [Tryz.ntmps125, List.size_toArray, List.length_cons, List.length_nil, Nat.reduceAdd, Nat.reduceSub, Array.replicate_succ, Array.replicate_zero, List.push_toArray, List.append_toArray, List.nil_append, List.cons_append]
  gi_wp2_with (refine ⟨trivial, ?_⟩; gi_at_call 164; refine (utfEach_in _ l _).mono ?_)
  rintro e w1 ⟨rfl, rfl⟩
  gi_wp2
  obtain ⟨w2, hw2⟩ : ∃ W, (w.alloc (Obj.cells #[Value.pointer none, Value.slice none 0 0] 184)).alloc (Obj.cells #[Value.string ⟨l.toArray⟩] 9) = W := ⟨_, rfl⟩
  rw [hw2]
  have hsz : w2.heap.size = w.heap.size + 2 := by rw [← hw2]; simp
  have hB2 : Below w.heap.size w w2 := by rw [← hw2]; exact ((Below.refl _ w).alloc (Nat.le_refl _) _).alloc (by simp) _
  have hbox : Blk w2 (w.heap.size + 1) 9 #[.string ⟨l.toArray⟩] := by
    have := Blk.new (w.alloc (Obj.cells #[Value.pointer none, Value.slice none 0 0] 184)) 9 #[.string ⟨l.toArray⟩]
    rw [World.size_alloc, hw2] at this
    exact this
  have hbt0 : IsBT 184 w.heap.size w.heap.size [] w2 := by
    rw [← hw2]
    exact isBT_grown btBuilder (isBT_new 184 w w.heap.size (Nat.le_refl _)) (World.grownBy_alloc _ _ none) (fun r e => by cases e)
  clear hw2
  refine wpIn_range_stores rfl (by omega) (gf := 207) (lb := #[.pointer (some ⟨w.heap.size + 1, 0, none⟩)]) rfl trivial (enters_of Tryz.func207 (by kernel_rfl) rfl)
    (each_stores 5 (by omega) (w.heap.size + 1) l hz w w2 hT hB2 (by omega) hbox) (by omega) (Below.refl _ _) ?kt ?kb (RepI w) ?own ?sto ⟨hbt0, hB2, _, hbox⟩
    (fun x => { tmps := #[.string ⟨l.toArray⟩, undef, .string ⟨#[]⟩, .pointer (some ⟨w.heap.size, 0, none⟩), .int .i64 x, .string ⟨l.toArray⟩, .func (.func 207) #[] #[.pointer (some ⟨w.heap.size + 1, 0, none⟩)], .int .i64 x, undef, undef, undef, undef], defers := [] }) ?assign ?body ?done
  case kt => exact fun k1 k2 => ⟨k2.1.trans k1.1, k1.2.trans k2.2⟩
  case kb =>
    intro W i o o' hi ho
    have := lt_of_heap ho
    exact ⟨World.putObj_heap_other (by omega), (Below.refl _ W).grown (grownBy_putObj' W i o') (by omega) (fun k e => by cases e; omega)⟩
  case own =>
    rintro s U V row ⟨h1, h2, v, h3⟩ hg hr
    have hr' : ∀ r, row = some r → ∃ o : Obj, U.heap[r]? = some o ∧ ∀ c t fz, o ≠ .cells c t fz := fun r e => by
      obtain ⟨_, o, ho, hc⟩ := hr r e
      exact ⟨o, ho, fun c t fz e2 => by rw [e2] at hc; cases hc⟩
    refine ⟨isBT_grown btBuilder h1 hg hr', h2.grown hg h2.size (fun k e => by have := (hr k e).1; omega), v, h3.grown hg ?_⟩
    intro e
    have := (hr _ e.symm).1
    omega
  case sto =>
    rintro s U v ⟨h1, h2, u, h3⟩
    exact ⟨isBT_far h1 h3 (by decide) (by omega) v, h2.setCell (p := ⟨w.heap.size + 1, 0, none⟩) (by simp) v, _, h3.set_ 0 v⟩
  case assign =>
    intro lp x W K hK
    gi_wp2
    exact hK
  case body =>
    rintro lp pre x rest W hx ⟨hbt, hbw, v, hblk⟩
    have hgx : badC x = false := charsR_good l x (by rw [hx]; simp)
    obtain ⟨g1, g2⟩ := good_nat hgx
    have hlen : (Lib.byteCells (pre.flatMap encL)).length + 4 ≤ 140737488355328 := by
      have h1 := flat_lenU pre
      have h2 := charsR_len l
      rw [hx] at h2
      simp at h2
      rw [Lib.byteCells_length]
      omega
    have hx0 : 0 ≤ x := by omega
    have hwr : IntKind.i32.wrap x = x := by
      unfold IntKind.wrap
      simp [IntKind.bits]
      omega
    have cW := hide (bt_writeRune_any btBuilder w.heap.size w.heap.size (Lib.byteCells (pre.flatMap encL)) x (by omega) (by omega) W hbt hlen hbw.size)
    gi_wp2_with (refine ⟨trivial, ?_⟩; gi_at_call 165; refine (CallsIn.inRound lp (callsIn_wide.2 cW.out)).mono ?_)
    rintro e W' ⟨⟨u, rfl⟩, hbt', hBe, hO⟩
    gi_wp2
    have hblk' : W'.heap[w.heap.size + 1]? = some (.cells #[v] 9 (0, 0)) := hO _ _ hblk (by simp) (fun c fz e => by injection e with e1 e2 e3; exact absurd e2 (by decide))
    refine ⟨fun k o hk ho => hO k o hk ?_ (fun c fz e => by rw [e] at ho; cases ho), ⟨hblk'.trans hblk.symm, hBe⟩, ?_, hbw.trans hBe, v, hblk'⟩
    · intro e
      have e' : k = w.heap.size := Option.some.inj e
      subst e'
      rcases hbt with ⟨_, q, hq, _⟩ | ⟨_, q, hq, _⟩
      · rw [hq] at hk; cases hk; cases ho
      · rw [hq] at hk; cases hk; cases ho
    · show Lib.IsBuilder _ _ _ _ (Lib.byteCells ((pre ++ [x]).flatMap encL)) W'
      rw [List.flatMap_append, Lib.byteCells_append]
      simpa [runeCells_good hgx] using hbt'
  case done =>
    rintro D W hD ⟨hbt, hbw, v, hblk⟩ hK
    have cS := hide (Tryz.Builder_String_any_k w.heap.size w.heap.size ((charsR l).flatMap encL) W (Lib.IsBuilderF.of hbt) hbw.size)
    gi_wp2_with (refine ⟨trivial, ?_⟩; gi_at_call 128; refine (callsIn_wide.2 cS.out).mono ?_)
    rintro e W' ⟨rfl, _, hBe, hO⟩
    have hK' := hO D _ hK (by intro e; have := Option.some.inj e; omega) (fun c fz e => by cases e)
    gi_wp2
    refine ⟨by simp, .inl ⟨_, _, rfl, run_takeDeferred hK', ?_⟩⟩
    have hlt := lt_of_heap hK'
    exact ⟨_, results_tmp rfl _ _ _, rfl, (hbw.trans hBe).grown (grownBy_putObj' W' D _) (by have := hBe.size; have := hbw.size; omega) (fun k e => by cases e; omega)⟩
end Go.Proofs.YtnepogddjinpoaaGreatDoor
