/-
  A range over a function that stores into the one cell that it has captured; the body is always left by its end.
-/
import Derived.RangeFuncFrom
import Derived.RangeFuncLeaves
import Derived.WalkKit
namespace Go.Proofs.YtnepogddjinpoaaGreatDoor
open Go.RowKit
set_option linter.unusedVariables false
variable {F : Fence} {n : Nat} {P : Program}

/-- The iterator's word: J abides what is new, and what it stores at block p; a round keeps Kp; then all of xs have come. -/
def SeqStores {α : Type} (F : Fence) (n : Nat) (P : Program) (gf : Nat) (lb : Array Value) (enc : α → Value) (p : Nat) (xs : List α) (Kp : World → World → Prop) (w0 : World) : Prop :=
  ∀ (l : Nat) (J : List α → World → Prop) (W : World), Below w0.heap.size w0 W →
    (∀ s U V, J s U → U.grownBy V none → J s V) → (∀ s U v, J s U → J s (U.setCell ⟨p, 0, none⟩ v)) →
    (∀ pre x rest W1, xs = pre ++ x :: rest → J pre W1 → YieldAt F (n - 1) P l #[enc x] W1 fun e W' => e = .returned (.bool true) ∧ J (pre ++ [x]) W' ∧ Kp W1 W') →
    J [] W → CallsIn F n P gf (#[.func (.yield l) #[] #[]] ++ lb) W fun e W' => (∃ v, e = .returned v) ∧ J xs W'

theorem wpIn_range_stores {α : Type} {g : Operand} {t : Tmp} {assign body : Code} {Q : Exit → Act → World → Prop} {a : Act} {w : World}
    (hro : F.round = none) (h1 : 1 ≤ n) {gf : Nat} {lb : Array Value} (hg : a.eval g = .func (.func gf) #[] lb) (hFg : F.fn gf) (eg : ∀ args w, (callFunc gf args).run P w = .ok (.enter gf args) w)
    {enc : α → Value} {Kp : World → World → Prop} {p : Nat} {xs : List α} {w0 : World} (hseq : SeqStores F (n - 1) P gf lb enc p xs Kp w0) (hp : p < w.heap.size) (hb0 : Below w0.heap.size w0 w)
    (hKt : ∀ {U V Z : World}, Kp U V → Kp V Z → Kp U Z) (hKb : ∀ (W : World) (l : Nat) (o o' : Obj), w.heap.size ≤ l → W.heap[l]? = some o → Kp W (W.putObj l o'))
    (I : List α → World → Prop) (hI : OwnFrom w.heap.size I) (hIs : ∀ s U v, I s U → I s (U.setCell ⟨p, 0, none⟩ v)) (h0 : I [] w) (a₁ : α → Act)
    (hassign : ∀ (l : Nat) (x : α) (W : World) (K : Act → World → Prop), K (a₁ x) W →
      assign.wpIn (F.inRound l) (n - 1 - 1) P (Exit.then K (fun _ _ _ => False)) { tmps := a.tmps.setIfInBounds t (enc x), defers := [] } W)
    (hbody : ∀ (l : Nat) (pre : List α) (x : α) (rest : List α) (W : World), xs = pre ++ x :: rest → I pre W → body.wpIn (F.inRound l) (n - 1 - 1) P (Exit.then (fun _ W' => (∀ (k : Nat) (o : Obj), W.heap[k]? = some o → o.isCells = false → W'.heap[k]? = some o) ∧ Kp W W' ∧ I (pre ++ [x]) W') (fun _ _ _ => False)) (a₁ x) W)
    (hdone : ∀ (D : Nat) (W : World), w.heap.size ≤ D → I xs W → W.heap[D]? = some (.deferred (some [])) → Q .normal { a with defers := { target := .collected D, args := #[] } :: a.defers } W) :
    (Code.rangeFunc g #[t] assign body).wpIn F n P Q a w := by
  refine wpIn_rangeFunc ?_
  intro fn hfn
  rw [hro]
  let R : LoopState → Option Code → Loop := fun st pe => { state := st, pending := pe, fn, tmps := a.tmps, params := #[t], assign, body, defers := w.heap.size }
  let W1 := (w.alloc (.deferred (some []))).alloc (.loop (R .ready none))
  have hd0 : W1.heap[w.heap.size]? = some (.deferred (some [])) := (Below.heap_alloc _ _ _ (by simp)).trans (World.alloc_heap_new w _)
  have hl0 : W1.heap[w.heap.size + 1]? = some (.loop (R .ready none)) := by
    have := World.alloc_heap_new (w.alloc (.deferred (some []))) (.loop (R .ready none))
    rwa [World.size_alloc] at this
  have hi0 : I [] W1 := hI.alloc _ (hI.alloc _ h0)
  have hb1 : Below w0.heap.size w0 W1 := hb0.trans ((((Below.refl _ w).alloc (Nat.le_refl _) _).alloc (by simp) _).mono hb0.size)
  refine ⟨w.heap.size + 1, [{ target := .collected w.heap.size, args := #[] }], W1, { target := .fn (.func gf) lb, args := #[.func (.yield (w.heap.size + 1)) #[] #[]] }, W1, gf,
    #[.func (.yield (w.heap.size + 1)) #[] #[]] ++ lb, W1, run_enterLoop_outer _ _ _ _ _, ?_, ?_, ?_, fun _ => h1, ?_⟩
  · simp only [resolve, hg]
    simp [go_sem]
  · intro f' hf'
    simp [Target.leads] at hf'
    subst hf'
    exact hFg
  · simp [invoke, go_sem, eg]
  refine (hseq (w.heap.size + 1) (fun pre W => I pre W ∧ W.heap[w.heap.size]? = some (.deferred (some [])) ∧ W.heap[w.heap.size + 1]? = some (.loop (R .ready none))) W1 hb1 ?_ ?_ ?_ ⟨hi0, hd0, hl0⟩).mono ?_
  · rintro s U V ⟨hi, hd, hl⟩ hg'
    exact ⟨hI s U V none hi hg' (fun r e => by cases e), (hg'.block _ (Array.getElem?_eq_some_iff.1 hd).1 (by simp)).trans hd, (hg'.block _ (Array.getElem?_eq_some_iff.1 hl).1 (by simp)).trans hl⟩
  · rintro s U v ⟨hi, hd, hl⟩
    exact ⟨hIs s U v hi, (Below.heap_setCell U ⟨p, 0, none⟩ v _ (by show w.heap.size ≠ p; omega)).trans hd, (Below.heap_setCell U ⟨p, 0, none⟩ v _ (by show w.heap.size + 1 ≠ p; omega)).trans hl⟩
  · rintro pre x rest W hx ⟨hi, hd, hl⟩
    have hlt := (Array.getElem?_eq_some_iff.1 hl).1
    have hy := run_yield (P := P) (args := #[enc x]) hl rfl
    have hz : ((R .ready none).params.zip #[enc x]).foldl (fun tmps (t, a) => tmps.setIfInBounds t a) (R .ready none).tmps = a.tmps.setIfInBounds t (enc x) := by simp [R]
    rw [hz] at hy
    refine ⟨fn, a.tmps.setIfInBounds t (enc x), assign, body, hy, roundIn_of_wpIn hfn ?_⟩
    refine hassign _ x W _ ?_
    refine ⟨_, run_beginRound hl rfl, ?_⟩
    obtain ⟨W2, hW2⟩ : ∃ W2, W.putObj (w.heap.size + 1) (.loop { R .ready none with state := .busy }) = W2 := ⟨_, rfl⟩
    have hk1 : Kp W W2 := by rw [← hW2]; exact hKb _ _ _ _ (by omega) hl
    have hi2 : I pre W2 := by rw [← hW2]; exact hI.putObj _ hi (by omega) hl rfl
    have hl2 : W2.heap[w.heap.size + 1]? = some (.loop { R .ready none with state := .busy }) := by rw [← hW2]; exact World.putObj_heap_same hlt
    have hd2 : W2.heap[w.heap.size]? = some (.deferred (some [])) := by rw [← hW2]; exact (World.putObj_heap_other (by omega)).trans hd
    show body.wpIn _ _ _ _ _ (W.putObj (w.heap.size + 1) (.loop { R .ready none with state := .busy }))
    rw [hW2]
    refine wpIn_mono (hbody _ pre x rest W2 hx hi2) ?_
    intro e a3 W3 h
    cases e with
    | normal =>
      obtain ⟨ho, hk3, hi3⟩ := h
      have hl3 := ho _ _ hl2 rfl
      have hd3 := ho _ _ hd2 rfl
      have hlt3 := (Array.getElem?_eq_some_iff.1 hl3).1
      exact ⟨_, _, run_endRound none hl3, rfl, ⟨hI.putObj _ hi3 (by omega) hl3 rfl, (World.putObj_heap_other (by omega)).trans hd3, World.putObj_heap_same hlt3⟩, hKt (hKt hk1 hk3) (hKb _ _ _ _ (by omega) hl3)⟩
    | ret => exact h.elim
    | exit id => exact h.elim
    | goto t => exact h.elim
    | panic c => exact h.elim
    | outgrown => exact h.elim
  · rintro e W ⟨⟨v, rfl⟩, hi, hd, hl⟩
    exact ⟨none, _, run_endLoop hl (by simp [R]), hdone _ _ (Nat.le_refl _) (hI.putObj _ hi (by omega) hl rfl) ((World.putObj_heap_other (by omega)).trans hd)⟩
end Go.Proofs.YtnepogddjinpoaaGreatDoor
