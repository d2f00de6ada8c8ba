/-
  utf.Repair.
-/
import Derived.Test.YtdnmgpidfjkiaaaDoorEach
namespace Go.Proofs.YtdnmgpidfjkiaaaDoor
open Go.RowKit Go.Shelf
attribute [local go_sem] Oper.semAt_some
set_option linter.unusedVariables false
set_option linter.unusedSimpArgs false

set_option maxHeartbeats 1000000 in
theorem utfEach_in (n : Nat) (l : List UInt8) (w : World) :
    CallsIn Fence.wide n Tryd.prog 94 #[.string ⟨l.toArray⟩] w fun e w' => e = .returned (.func (.func 122) #[] #[.pointer (some ⟨w.heap.size, 0, none⟩)]) ∧ w' = w.alloc (.cells #[.string ⟨l.toArray⟩] 9) := by
  refine callsIn_of_wp Tryd.func94 rfl trivial ?_ rfl
  simp only [Tryd.ntmps94, List.size_toArray, List.length_cons, List.length_nil, Nat.reduceAdd, Nat.reduceSub, Array.replicate_succ, Array.replicate_zero, List.push_toArray, List.append_toArray, List.nil_append, List.cons_append]
  gi_wp2
  go_ret
  exact ⟨rfl, rfl⟩
/-- What Repair keeps between two rounds. -/
def RepI (w : World) (pre : List Int) (W : World) : Prop :=
  IsBT 87 w.heap.size w.heap.size (pre.flatMap encL) W ∧ Below w.heap.size w W ∧ ∃ v, Blk W (w.heap.size + 1) 9 #[v]
theorem isBT_grown {T : TypeId} (hT : BT T) {B b : Nat} {l : List Value} {U V : World} {row : Option Nat} (h : Lib.IsBuilder T 5 B b l U) (hg : U.grownBy V row) (hr : ∀ r, row = some r → ∃ o : Obj, U.heap[r]? = some o ∧ ∀ c t fz, o ≠ .cells c t fz) : Lib.IsBuilder T 5 B b l V := by
  have key : ∀ p, Lib.BuilderAt T 5 B b p l U → Lib.BuilderAt T 5 B b p l V := by
    rintro p ⟨hB, v, hb, hown, hne⟩
    refine ⟨hB, v, ?_, hown.kept hg ?_, hne⟩
    · refine (hg.block b (lt_of_heap hb) ?_).trans hb
      intro e
      obtain ⟨o, ho, hc⟩ := hr b e.symm
      rw [hb] at ho
      exact hc _ _ _ (Option.some.inj ho).symm
    · rcases hown.2 with ⟨rfl, _⟩ | ⟨g, cap, cur, rfl, _, hg', _⟩
      · exact .inl rfl
      · right
        intro e
        obtain ⟨o, ho, hc⟩ := hr g e.symm
        rw [hg'] at ho
        exact hc _ _ _ (Option.some.inj ho).symm
  exact h.imp (key _) (key _)
theorem isBT_far {T : TypeId} {B b p : Nat} {l : List Value} {U : World} {T2 : TypeId} {cs : Array Value} (h : Lib.IsBuilder T 5 B b l U) (hp : Blk U p T2 cs) (hT2 : T2 ≠ 5) (hpb : p ≠ b) (v : Value) : Lib.IsBuilder T 5 B b l (U.setCell ⟨p, 0, none⟩ v) := by
  have key : ∀ q, Lib.BuilderAt T 5 B b q l U → Lib.BuilderAt T 5 B b q l (U.setCell ⟨p, 0, none⟩ v) := by
    rintro q ⟨hB, u, hb, hown, hne⟩
    refine ⟨hB, u, (Below.heap_setCell U ⟨p, 0, none⟩ v b (fun e => hpb e.symm)).trans hb, ⟨hown.1, ?_⟩, hne⟩
    rcases hown.2 with hn | ⟨g, cap, cur, hv, hB2, hg', rest⟩
    · exact .inl hn
    · refine .inr ⟨g, cap, cur, hv, hB2, (Below.heap_setCell U ⟨p, 0, none⟩ v g ?_).trans hg', rest⟩
      intro e
      have e' : g = p := e
      subst e'
      unfold Blk at hp
      rw [hg'] at hp
      injection hp with hp
      injection hp with h1 h2 h3
      exact hT2 h2.symm
  exact h.imp (key _) (key _)
end Go.Proofs.YtdnmgpidfjkiaaaDoor
