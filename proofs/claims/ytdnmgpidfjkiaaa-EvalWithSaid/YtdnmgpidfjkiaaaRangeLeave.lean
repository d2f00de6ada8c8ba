/-
  A range over a function whose loop variable lies in a cell of its own, new each round; the body is left by its end, or by a return.
-/
import Derived.RangeFuncWrites
import Derived.RangeFuncLeaves
import Derived.WalkKit
namespace Go.Proofs.Ytdnmgpidfjkiaaa
open Go.RowKit
set_option linter.unusedVariables false
variable {F : Fence} {n : Nat} {P : Program}

/-- How a round ends. -/
def leavePost {α : Type} (B : Nat) (Kp : World → World → Prop) (I Ix : List α → World → Prop) (xs : List α) (W : World) : Exit → Act → World → Prop
  | .normal, _, W' => KeepsFrom B W W' ∧ Kp W W' ∧ I xs W'
  | .ret, _, W' => KeepsFrom B W W' ∧ Ix xs W'
  | _, _, _ => False
/-- Pa: what the loop's variable holds when the body begins. -/
theorem wpIn_range_leave {α : Type} {g : Operand} {ps : Array Tmp} {assign body : Code} {Q : Exit → Act → World → Prop} {a : Act} {w : World}
    (hro : F.round = none) (h1 : 1 ≤ n) {gf : Nat} {lb : Array Value} (hg : a.eval g = .func (.func gf) #[] lb) (hFg : F.fn gf) (eg : ∀ args w, (callFunc gf args).run P w = .ok (.enter gf args) w)
    {encs : α → Array Value} {Kp : World → World → Prop} {S Sp : List α → Prop} {N : Nat} {w0 : World} (hseq : SeqStopsK F (n - 1) P gf lb encs Kp S Sp N w0)
    (hKt : ∀ {X Y Z : World}, Kp X Y → Kp Y Z → Kp X Z) (hKb : ∀ (W : World) (l : Nat) (o o' : Obj), w.heap.size ≤ l → W.heap[l]? = some o → o.isCells = false → o.isWalk = false → Kp W (W.putObj l o')) (hKg : ∀ W Wa : World, w.heap.size ≤ W.heap.size → W.grownBy Wa none → Kp W Wa)
    (hb0 : Below w0.heap.size w0 w) (hps : ∀ x, (encs x).size = ps.size)
    (I Ix : List α → World → Prop) (hI : OwnFrom w.heap.size I) (hIx : OwnFrom w.heap.size Ix) (h0 : I [] w) (Pa : α → Act → World → Prop)
    (hPb : ∀ (x : α) (a' : Act) (W : World) (l : Nat) (o o' : Obj), Pa x a' W → W.heap[l]? = some o → o.isCells = false → Pa x a' (W.putObj l o'))
    (hassign : ∀ (l : Nat) (x : α) (W : World) (K : Act → World → Prop), w.heap.size ≤ W.heap.size → (∀ a' Wa, W.grownBy Wa none → Pa x a' Wa → K a' Wa) →
      assign.wpIn (F.inRound l) (n - 1 - 1) P (Exit.then K (fun _ _ _ => False)) { tmps := (ps.zip (encs x)).foldl (fun t (p, v) => t.setIfInBounds p v) a.tmps, defers := [] } W)
    (hbody : ∀ (l : Nat) (pre : List α) (x : α) (a' : Act) (W : World), Pa x a' W → I pre W → pre.length < N → body.wpIn (F.inRound l) (n - 1 - 1) P (leavePost w.heap.size Kp I Ix (pre ++ [x]) W) a' W)
    (hdone : ∀ (D : Nat) (xs : List α) (W : World), w.heap.size ≤ D → S xs → I xs W → W.heap[D]? = some (.deferred (some [])) → Q .normal { a with defers := { target := .collected D, args := #[] } :: a.defers } W)
    (hstop : ∀ (D : Nat) (pre : List α) (W : World), w.heap.size ≤ D → Sp pre → Ix pre W → W.heap[D]? = some (.deferred (some [])) → (Code.ret).wpIn F n P Q { a with defers := { target := .collected D, args := #[] } :: a.defers } W) :
    (Code.rangeFunc g ps assign body).wpIn F n P Q a w := by
  refine wpIn_rangeFunc ?_
  intro fn hfn
  rw [hro]
  let R : LoopState → Option Code → Loop := fun st pe => { state := st, pending := pe, fn, tmps := a.tmps, params := ps, assign, body, defers := w.heap.size }
  let W1 := (w.alloc (.deferred (some []))).alloc (.loop (R .ready none))
  have hd0 : W1.heap[w.heap.size]? = some (.deferred (some [])) := (Below.heap_alloc _ _ _ (by simp)).trans (World.alloc_heap_new w _)
  have hl0 : W1.heap[w.heap.size + 1]? = some (.loop (R .ready none)) := by
    have := World.alloc_heap_new (w.alloc (.deferred (some []))) (.loop (R .ready none))
    rwa [World.size_alloc] at this
  have hi0 : I [] W1 := hI.alloc _ (hI.alloc _ h0)
  have hb1 : Below w0.heap.size w0 W1 := hb0.trans ((((Below.refl _ w).alloc (Nat.le_refl _) _).alloc (by simp) _).mono hb0.size)
  have hz1 : W1.heap.size = w.heap.size + 2 := by simp [W1]
  refine ⟨w.heap.size + 1, [{ target := .collected w.heap.size, args := #[] }], W1, { target := .fn (.func gf) lb, args := #[.func (.yield (w.heap.size + 1)) #[] #[]] }, W1, gf,
    #[.func (.yield (w.heap.size + 1)) #[] #[]] ++ lb, W1, run_enterLoop_outer _ _ _ _ _, ?_, ?_, ?_, fun _ => h1, ?_⟩
  · simp only [resolve, hg]
    simp [go_sem]
  · intro f' hf'
    simp [Target.leads] at hf'
    subst hf'
    exact hFg
  · simp [invoke, go_sem, eg]
  have hnw : ∀ {Z0 : World} {row : Option Nat}, (∀ r, row = some r → W1.heap.size ≤ r ∧ ∃ o : Obj, Z0.heap[r]? = some o ∧ o.isWalk = true) → (∀ r, row = some r → w.heap.size ≤ r ∧ ∃ o : Obj, Z0.heap[r]? = some o ∧ o.isCells = false) :=
    fun hr r e => by obtain ⟨hB, o, ho, hw⟩ := hr r e; exact ⟨by omega, o, ho, Obj.not_cells_of_walk hw⟩
  refine (hseq (w.heap.size + 1) (fun pre W => I pre W ∧ W.heap[w.heap.size]? = some (.deferred (some [])) ∧ W.heap[w.heap.size + 1]? = some (.loop (R .ready none)))
    (fun pre W => Ix pre W ∧ W.heap[w.heap.size]? = some (.deferred (some [])) ∧ W.heap[w.heap.size + 1]? = some (.loop (R .done (some .ret)))) W1 hb1 ?_ ?_ ?_ ⟨hi0, hd0, hl0⟩).mono ?_
  · rintro s U V row ⟨hi, hd, hl⟩ hg' hr
    exact ⟨hI s U V row hi hg' (hnw hr), (grownBy_keeps hg' (fun r e => (hr r e).2) hd rfl).trans hd, (grownBy_keeps hg' (fun r e => (hr r e).2) hl rfl).trans hl⟩
  · rintro s U V row ⟨hi, hd, hl⟩ hg' hr
    exact ⟨hIx s U V row hi hg' (hnw hr), (grownBy_keeps hg' (fun r e => (hr r e).2) hd rfl).trans hd, (grownBy_keeps hg' (fun r e => (hr r e).2) hl rfl).trans hl⟩
  · rintro pre x W ⟨hi, hd, hl⟩ hlen
    have hlt := (Array.getElem?_eq_some_iff.1 hl).1
    have hy := run_yield (P := P) (args := encs x) hl (hps x)
    refine ⟨fn, _, assign, body, hy, roundIn_of_wpIn hfn (hassign _ x W _ (by omega) fun a' Wa hga hPa => ?_)⟩
    have hla : Wa.heap[w.heap.size + 1]? = some (.loop (R .ready none)) := (hga.block _ hlt (fun e => by cases e)).trans hl
    have hda : Wa.heap[w.heap.size]? = some (.deferred (some [])) := (hga.block _ (by omega) (fun e => by cases e)).trans hd
    have hia : I pre Wa := hI pre W Wa none hi hga (fun r e => by cases e)
    have hlta := (Array.getElem?_eq_some_iff.1 hla).1
    refine ⟨_, run_beginRound hla rfl, ?_⟩
    have hk1 : Kp W (Wa.putObj (w.heap.size + 1) (.loop { R .ready none with state := .busy })) := hKt (hKg W Wa (by omega) hga) (hKb _ _ _ _ (by omega) hla rfl rfl)
    have hi2 : I pre (Wa.putObj (w.heap.size + 1) (.loop { R .ready none with state := .busy })) := hI.putObj _ hia (by omega) hla rfl
    have hl2 : (Wa.putObj (w.heap.size + 1) (.loop { R .ready none with state := .busy })).heap[w.heap.size + 1]? = some (.loop { R .ready none with state := .busy }) := World.putObj_heap_same hlta
    have hd2 : (Wa.putObj (w.heap.size + 1) (.loop { R .ready none with state := .busy })).heap[w.heap.size]? = some (.deferred (some [])) := (World.putObj_heap_other (by omega)).trans hda
    have hP2 : Pa x a' (Wa.putObj (w.heap.size + 1) (.loop { R .ready none with state := .busy })) := hPb x a' Wa _ _ _ hPa hla rfl
    show body.wpIn _ _ _ _ _ (Wa.putObj (w.heap.size + 1) (.loop { R .ready none with state := .busy }))
    generalize Wa.putObj (w.heap.size + 1) (.loop { R .ready none with state := .busy }) = W2 at hk1 hi2 hl2 hd2 hP2 ⊢
    refine wpIn_mono (hbody _ pre x a' W2 hP2 hi2 hlen) ?_
    intro e a3 W3 h
    cases e with
    | normal =>
      obtain ⟨ho, hk3, hi3⟩ := h
      have hl3 := ho.same _ _ (by omega) hl2 rfl
      have hd3 := ho.same _ _ (by omega) hd2 rfl
      have hlt3 := (Array.getElem?_eq_some_iff.1 hl3).1
      exact ⟨_, _, run_endRound none hl3, .inl ⟨rfl, ⟨hI.putObj _ hi3 (by omega) hl3 rfl, (World.putObj_heap_other (by omega)).trans hd3, World.putObj_heap_same hlt3⟩, hKt (hKt hk1 hk3) (hKb _ _ _ _ (by omega) hl3 rfl rfl)⟩⟩
    | ret =>
      obtain ⟨ho, hi3⟩ := h
      have hl3 := ho.same _ _ (by omega) hl2 rfl
      have hd3 := ho.same _ _ (by omega) hd2 rfl
      have hlt3 := (Array.getElem?_eq_some_iff.1 hl3).1
      exact ⟨_, _, run_endRound (some .ret) hl3, .inr ⟨rfl, hIx.putObj _ hi3 (by omega) hl3 rfl, (World.putObj_heap_other (by omega)).trans hd3, World.putObj_heap_same hlt3⟩⟩
    | exit id => exact h.elim
    | goto t => exact h.elim
    | panic c => exact h.elim
    | outgrown => exact h.elim
  · rintro e W ⟨⟨v, rfl⟩, (⟨xs, hS, hi, hd, hl⟩ | ⟨pre, hSp, hi, hd, hl⟩)⟩
    · exact ⟨none, _, run_endLoop hl (by simp [R]), hdone _ xs _ (Nat.le_refl _) hS (hI.putObj _ hi (by omega) hl rfl) ((World.putObj_heap_other (by omega)).trans hd)⟩
    · exact ⟨some .ret, _, run_endLoop hl (by simp [R]), hstop _ pre _ (Nat.le_refl _) hSp (hIx.putObj _ hi (by omega) hl rfl) ((World.putObj_heap_other (by omega)).trans hd)⟩
end Go.Proofs.Ytdnmgpidfjkiaaa
