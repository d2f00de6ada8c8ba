/-
  PLAIN LAWS of many texts, in one.
-/
import Derived.RangeFuncFrom
import Derived.RangeFuncLeaves
import Derived.WalkKit
import Derived.Test.YtnepogddjinpoaaGreatDoorBuildT
import Derived.Test.YtnepogddjinpoaaGreatDoorM2
import Derived.Test.YtnepogddjinpoaaGreatDoorShelf
import Derived.Lib.OthersKept
import Derived.RangeFuncNested
import Derived.RangeFuncBound
import Derived.RangeFuncCalls
import Derived.Shelf.Abstract
import Derived.Shelf.RegionOpen
import Derived.OwnWalkIn
import Derived.TacticsInMore
import Derived.LoopNIn
import Derived.LoopIn
import Derived.Test.YtnepogddjinpoaaGreatDoorStr
import Derived.Test.YtnepogddjinpoaaGreatDoorBytes
namespace Go.Proofs.YtnepogddjinpoaaGreatDoor
open Go.RowKit
set_option linter.unusedVariables false
variable {F : Fence} {n : Nat} {P : Program}

/-- The iterator's word: J abides what is new, and what it stores at block p; a round keeps Kp; then all of xs have come. -/
def SeqStores {α : Type} (F : Fence) (n : Nat) (P : Program) (gf : Nat) (lb : Array Value) (enc : α → Value) (p : Nat) (xs : List α) (Kp : World → World → Prop) (w0 : World) : Prop :=
  ∀ (l : Nat) (J : List α → World → Prop) (W : World), Below w0.heap.size w0 W →
    (∀ s U V, J s U → U.grownBy V none → J s V) → (∀ s U v, J s U → J s (U.setCell ⟨p, 0, none⟩ v)) →
    (∀ pre x rest W1, xs = pre ++ x :: rest → J pre W1 → YieldAt F (n - 1) P l #[enc x] W1 fun e W' => e = .returned (.bool true) ∧ J (pre ++ [x]) W' ∧ Kp W1 W') →
    J [] W → CallsIn F n P gf (#[.func (.yield l) #[] #[]] ++ lb) W fun e W' => (∃ v, e = .returned v) ∧ J xs W'

theorem wpIn_range_stores {α : Type} {g : Operand} {t : Tmp} {assign body : Code} {Q : Exit → Act → World → Prop} {a : Act} {w : World}
    (hro : F.round = none) (h1 : 1 ≤ n) {gf : Nat} {lb : Array Value} (hg : a.eval g = .func (.func gf) #[] lb) (hFg : F.fn gf) (eg : ∀ args w, (callFunc gf args).run P w = .ok (.enter gf args) w)
    {enc : α → Value} {Kp : World → World → Prop} {p : Nat} {xs : List α} {w0 : World} (hseq : SeqStores F (n - 1) P gf lb enc p xs Kp w0) (hp : p < w.heap.size) (hb0 : Below w0.heap.size w0 w)
    (hKt : ∀ {U V Z : World}, Kp U V → Kp V Z → Kp U Z) (hKb : ∀ (W : World) (l : Nat) (o o' : Obj), w.heap.size ≤ l → W.heap[l]? = some o → Kp W (W.putObj l o'))
    (I : List α → World → Prop) (hI : OwnFrom w.heap.size I) (hIs : ∀ s U v, I s U → I s (U.setCell ⟨p, 0, none⟩ v)) (h0 : I [] w) (a₁ : α → Act)
    (hassign : ∀ (l : Nat) (x : α) (W : World) (K : Act → World → Prop), K (a₁ x) W →
      assign.wpIn (F.inRound l) (n - 1 - 1) P (Exit.then K (fun _ _ _ => False)) { tmps := a.tmps.setIfInBounds t (enc x), defers := [] } W)
    (hbody : ∀ (l : Nat) (pre : List α) (x : α) (rest : List α) (W : World), xs = pre ++ x :: rest → I pre W → body.wpIn (F.inRound l) (n - 1 - 1) P (Exit.then (fun _ W' => (∀ (k : Nat) (o : Obj), W.heap[k]? = some o → o.isCells = false → W'.heap[k]? = some o) ∧ Kp W W' ∧ I (pre ++ [x]) W') (fun _ _ _ => False)) (a₁ x) W)
    (hdone : ∀ (D : Nat) (W : World), w.heap.size ≤ D → I xs W → W.heap[D]? = some (.deferred (some [])) → Q .normal { a with defers := { target := .collected D, args := #[] } :: a.defers } W) :
    (Code.rangeFunc g #[t] assign body).wpIn F n P Q a w := by
  refine wpIn_rangeFunc ?_
  intro fn hfn
  rw [hro]
  let R : LoopState → Option Code → Loop := fun st pe => { state := st, pending := pe, fn, tmps := a.tmps, params := #[t], assign, body, defers := w.heap.size }
  let W1 := (w.alloc (.deferred (some []))).alloc (.loop (R .ready none))
  have hd0 : W1.heap[w.heap.size]? = some (.deferred (some [])) := (Below.heap_alloc _ _ _ (by simp)).trans (World.alloc_heap_new w _)
  have hl0 : W1.heap[w.heap.size + 1]? = some (.loop (R .ready none)) := by
    have := World.alloc_heap_new (w.alloc (.deferred (some []))) (.loop (R .ready none))
    rwa [World.size_alloc] at this
  have hi0 : I [] W1 := hI.alloc _ (hI.alloc _ h0)
  have hb1 : Below w0.heap.size w0 W1 := hb0.trans ((((Below.refl _ w).alloc (Nat.le_refl _) _).alloc (by simp) _).mono hb0.size)
  refine ⟨w.heap.size + 1, [{ target := .collected w.heap.size, args := #[] }], W1, { target := .fn (.func gf) lb, args := #[.func (.yield (w.heap.size + 1)) #[] #[]] }, W1, gf,
    #[.func (.yield (w.heap.size + 1)) #[] #[]] ++ lb, W1, run_enterLoop_outer _ _ _ _ _, ?_, ?_, ?_, fun _ => h1, ?_⟩
  · simp only [resolve, hg]
    simp [go_sem]
  · intro f' hf'
    simp [Target.leads] at hf'
    subst hf'
    exact hFg
  · simp [invoke, go_sem, eg]
  refine (hseq (w.heap.size + 1) (fun pre W => I pre W ∧ W.heap[w.heap.size]? = some (.deferred (some [])) ∧ W.heap[w.heap.size + 1]? = some (.loop (R .ready none))) W1 hb1 ?_ ?_ ?_ ⟨hi0, hd0, hl0⟩).mono ?_
  · rintro s U V ⟨hi, hd, hl⟩ hg'
    exact ⟨hI s U V none hi hg' (fun r e => by cases e), (hg'.block _ (Array.getElem?_eq_some_iff.1 hd).1 (by simp)).trans hd, (hg'.block _ (Array.getElem?_eq_some_iff.1 hl).1 (by simp)).trans hl⟩
  · rintro s U v ⟨hi, hd, hl⟩
    exact ⟨hIs s U v hi, (Below.heap_setCell U ⟨p, 0, none⟩ v _ (by show w.heap.size ≠ p; omega)).trans hd, (Below.heap_setCell U ⟨p, 0, none⟩ v _ (by show w.heap.size + 1 ≠ p; omega)).trans hl⟩
  · rintro pre x rest W hx ⟨hi, hd, hl⟩
    have hlt := (Array.getElem?_eq_some_iff.1 hl).1
    have hy := run_yield (P := P) (args := #[enc x]) hl rfl
    have hz : ((R .ready none).params.zip #[enc x]).foldl (fun tmps (t, a) => tmps.setIfInBounds t a) (R .ready none).tmps = a.tmps.setIfInBounds t (enc x) := by simp [R]
    rw [hz] at hy
    refine ⟨fn, a.tmps.setIfInBounds t (enc x), assign, body, hy, roundIn_of_wpIn hfn ?_⟩
    refine hassign _ x W _ ?_
    refine ⟨_, run_beginRound hl rfl, ?_⟩
    obtain ⟨W2, hW2⟩ : ∃ W2, W.putObj (w.heap.size + 1) (.loop { R .ready none with state := .busy }) = W2 := ⟨_, rfl⟩
    have hk1 : Kp W W2 := by rw [← hW2]; exact hKb _ _ _ _ (by omega) hl
    have hi2 : I pre W2 := by rw [← hW2]; exact hI.putObj _ hi (by omega) hl rfl
    have hl2 : W2.heap[w.heap.size + 1]? = some (.loop { R .ready none with state := .busy }) := by rw [← hW2]; exact World.putObj_heap_same hlt
    have hd2 : W2.heap[w.heap.size]? = some (.deferred (some [])) := by rw [← hW2]; exact (World.putObj_heap_other (by omega)).trans hd
    show body.wpIn _ _ _ _ _ (W.putObj (w.heap.size + 1) (.loop { R .ready none with state := .busy }))
    rw [hW2]
    refine wpIn_mono (hbody _ pre x rest W2 hx hi2) ?_
    intro e a3 W3 h
    cases e with
    | normal =>
      obtain ⟨ho, hk3, hi3⟩ := h
      have hl3 := ho _ _ hl2 rfl
      have hd3 := ho _ _ hd2 rfl
      have hlt3 := (Array.getElem?_eq_some_iff.1 hl3).1
      exact ⟨_, _, run_endRound none hl3, rfl, ⟨hI.putObj _ hi3 (by omega) hl3 rfl, (World.putObj_heap_other (by omega)).trans hd3, World.putObj_heap_same hlt3⟩, hKt (hKt hk1 hk3) (hKb _ _ _ _ (by omega) hl3)⟩
    | ret => exact h.elim
    | exit id => exact h.elim
    | goto t => exact h.elim
    | panic c => exact h.elim
    | outgrown => exact h.elim
  · rintro e W ⟨⟨v, rfl⟩, hi, hd, hl⟩
    exact ⟨none, _, run_endLoop hl (by simp [R]), hdone _ _ (Nat.le_refl _) (hI.putObj _ hi (by omega) hl rfl) ((World.putObj_heap_other (by omega)).trans hd)⟩
end Go.Proofs.YtnepogddjinpoaaGreatDoor

namespace Go.Proofs.YtnepogddjinpoaaGreatDoor
open Go.RowKit
set_option linter.unusedVariables false
set_option linter.unusedSimpArgs false

theorem bt_copyCheck_o {T : TypeId} (hT : BT T) (B b : Nat) (bs : List Value) (w : World) (h : Lib.IsBuilder T 5 B b bs w) :
    Calls Tryz.prog 166 #[.pointer (some ⟨b, 0, none⟩)] w fun e w' => e = .returned (.tuple #[]) ∧ (Lib.BuilderAt T 5 B b (.pointer (some ⟨b, 0, none⟩)) bs w' ∧ Below B w w' ∧ Lib.OthersKept 5 (some b) w w') := by
  rcases h with h | h
  · refine (bt_copyCheck_fresh hT b w h.cell0 h.shape h.frozen0).mono ?_
    rintro e w' ⟨rfl, rfl⟩
    exact ⟨rfl, h.used _, (Below.refl B w).setCell (p := ⟨b, 0, none⟩) h.1 _, fun k o hk hkb _ => (Below.heap_setCell w ⟨b, 0, none⟩ _ k (fun e => hkb (by rw [e]))).trans hk⟩
  · refine (bt_copyCheck_used hT b w h.cell0).mono ?_
    rintro e w' ⟨rfl, rfl⟩
    exact ⟨rfl, h, Below.refl B _, fun k o hk _ _ => hk⟩
theorem own_block_ne {w : World} {base n size : Nat} {e : TypeId} {v : Value} {xs : List Value} (h : w.ownsRow base e size v n xs) {k : Nat} {o : Obj} (hk : w.heap[k]? = some o) (ho : ∀ c fz, o ≠ .cells c e fz) : v.ownBlock ≠ some k := by
  rcases h.2 with ⟨rfl, _⟩ | ⟨g, cap, cur, rfl, _, hg, _⟩
  · simp [Value.ownBlock]
  · intro e
    simp [Value.ownBlock] at e
    subst e
    rw [hg] at hk
    exact ho _ _ (Option.some.inj hk).symm
set_option maxHeartbeats 2000000 in
set_option maxRecDepth 100000 in
theorem bt_writeRune_any {T : TypeId} (hT : BT T) (B b : Nat) (bs : List Value) (r : Int) (hr0 : -2147483648 ≤ r) (hr1 : r ≤ 2147483647) (w : World) (h : Lib.IsBuilder T 5 B b bs w) (hlen : bs.length + 4 ≤ 140737488355328) (hBw : B ≤ w.heap.size) :
    Calls Tryz.prog 165 #[.pointer (some ⟨b, 0, none⟩), .int .i32 r] w fun e w' => (∃ v, e = .returned v) ∧ (Lib.IsBuilder T 5 B b (bs ++ Lib.runeCells r) w' ∧ Below B w w' ∧ Lib.OthersKept 5 (some b) w w') := by
  go_enter Tryz.func165, Tryz.ntmps165
  go_wp2_with (go_at_call 166; refine (bt_copyCheck_o hT B b bs _ h).mono ?_)
  rintro e w1 ⟨rfl, h1, hb1, hs1⟩
  obtain ⟨hB, v, hbk, hown, hne⟩ := h1
  have c0 : w1.cell? ⟨b, 0, none⟩ = some (.pointer (some ⟨b, 0, none⟩)) := by rw [Lib.cell_of_heap hbk]; rfl
  have c1 : w1.cell? ⟨b, 1, none⟩ = some v := by rw [Lib.cell_of_heap hbk]; rfl
  have hB1 : B ≤ w1.heap.size := by have := hb1.size; omega
  obtain ⟨q, cp, hv⟩ : ∃ q cp, v = .slice q bs.length cp := by
    rcases hown.2 with ⟨hv, h0⟩ | ⟨g, cap, cur, hv, _⟩
    · exact ⟨_, _, by rw [hv, h0]⟩
    · exact ⟨_, _, hv⟩
  subst hv
  go_wp2_with (go_at_call 209; refine (Tryz.utf8_AppendRune_plain B _ bs.length bs r hr0 hr1 _ hown hlen hB1).mono ?_)
  rintro e w2 ⟨v', rfl, hown', o, hgrow⟩
  have hlt : b < w1.heap.size := lt_of_heap hbk
  have hb2 : w2.heap[b]? = some (.cells #[.pointer (some ⟨b, 0, none⟩), .slice q bs.length cp] T (0, 0)) := by
    rw [hgrow.block b (by simp; omega) (fun e => hne e.symm), Lib.alloc_old w1 _ b hlt]
    exact hbk
  have d0 : w2.cell? ⟨b, 0, none⟩ = some (.pointer (some ⟨b, 0, none⟩)) := by rw [Lib.cell_of_heap hb2]; rfl
  have d1 : w2.cell? ⟨b, 1, none⟩ = some (.slice q bs.length cp) := by rw [Lib.cell_of_heap hb2]; rfl
  have f1 : w2.frozen? ⟨b, 1, none⟩ = false := Lib.frozen_of_heap hb2 1
  obtain ⟨q', cp', hv'⟩ : ∃ q cp, v' = .slice q (bs.length + (Lib.runeCells r).length) cp := by
    rcases hown'.2 with ⟨hv, h0⟩ | ⟨g, cap, cur, hv, _⟩
    · exact ⟨_, _, by rw [hv, h0]⟩
    · exact ⟨_, _, hv⟩
  subst hv'
  go_wp2
  go_ret2
  refine ⟨⟨_, rfl⟩, .inr ?_, ?_, ?_⟩
  · exact Lib.BuilderAt.put (T := T) (e := 5) hB hb2 (bs' := bs ++ Lib.runeCells r) (by simpa using hown') hT.ne
  · exact ((hb1.alloc (by have := hb1.size; omega) _).grown hgrow (by have := hb1.size; simp; omega) (fun k hk => (hown.lt k hk).1)).setCell (p := ⟨b, 1, none⟩) hB _
  · exact hs1.trans fun k o' hk hkb ho' => (Below.heap_setCell _ ⟨b, 1, none⟩ _ k (fun e => hkb (by rw [e]))).trans ((hgrow.block k (by have := lt_of_heap hk; simp; omega) (fun e => own_block_ne hown hk ho' e.symm)).trans ((Lib.alloc_old w1 _ k (lt_of_heap hk)).trans hk))
theorem decR_kind (l : List UInt8) : ((decR l).1 = -1 ∧ (decR l).2 < 2) ∨ (0 ≤ (decR l).1 ∧ (decR l).1 ≤ 1114111 ∧ ((decR l).1 ≠ 65533 ∨ 2 ≤ (decR l).2) ∧ (decR l).2 ≤ 4) := by
  cases l with
  | nil => exact .inl ⟨rfl, by decide⟩
  | cons b r =>
    by_cases h : b.toNat < 128
    · rw [(goD_one b r h).2]
      exact .inr ⟨by simp, by simp; omega, .inl (by simp; omega), by simp⟩
    · rw [decR_cons]
      split
      · exact .inl ⟨rfl, by decide⟩
      · rename_i h1
        split
        · exact .inl ⟨rfl, by decide⟩
        · split
          · rename_i h3
            have hs : 2 ≤ sizeR b := by
              have h0 : sizeR b ≠ 1 := by unfold sizeR; rw [if_neg (by omega)]; (repeat' split) <;> omega
              omega
            have := good_nat h3.1
            exact .inr ⟨by simp, by simp at this ⊢; omega, .inr hs, sizeR_le b⟩
          · exact .inl ⟨rfl, by decide⟩
set_option maxHeartbeats 1000000 in
set_option maxRecDepth 100000 in
theorem utfDecode_any (l : List UInt8) (w : World) (hT : Lib.Utf8Tabs 1 2 w) :
    Calls Tryz.prog 208 #[.string ⟨l.toArray⟩] w fun e w' => e = .returned (.tuple #[.int .i64 (decR l).1, .int .i64 ((decR l).2 : Int)]) ∧ Below w.heap.size w w' := by
  have cD := Tryz.utf8_DecodeRuneInString ⟨l.toArray⟩ w hT
  rw [decGo] at cD
  have hk := decR_kind l
  generalize decR l = p at cD hk
  obtain ⟨c, n⟩ := p
  simp only at hk ⊢
  rcases hk with ⟨rfl, hn⟩ | ⟨h0, h1, h2, h4⟩
  · have ht : tell (-1, n) = (65533, n) := rfl
    rw [ht] at cD
    simp only at cD
    have hni : (n : Int) < 2 := by omega
    have cD := hide cD
    go_enter Tryz.func208, Tryz.ntmps208
    go_wp2_with fail
    refine cD.out.mono ?_
    rintro e w1 ⟨rfl, hb⟩
    go_wp2_with fail
    go_ret2
    exact ⟨rfl, hb⟩
  · obtain ⟨m, rfl⟩ : ∃ m : Nat, c = (m : Int) := ⟨c.toNat, by omega⟩
    rw [tell_nat] at cD
    simp only at cD
    have cD := hide cD
    have hw : IntKind.i64.wrap (m : Int) = (m : Int) := IntWalk.i64_in _ (by omega)
    have hn0 : (0 : Int) ≤ (n : Int) := by omega
    have h4' : (n : Int) ≤ 4 := by omega
    by_cases h5 : m = 65533
    · have hni : decide ((n : Int) < 2) = false := by simp; omega
      subst h5
      clear h0 h1 h2
      go_enter Tryz.func208, Tryz.ntmps208
      go_wp2_with fail
      refine cD.out.mono ?_
      rintro e w1 ⟨rfl, hb⟩
      go_wp2_with fail
      go_ret2
      exact ⟨rfl, hb⟩
    · have hne : ((m : Int) == 65533) = false := by simp; omega
      clear h5 h0 h1 h2
      go_enter Tryz.func208, Tryz.ntmps208
      go_wp2_with fail
      refine cD.out.mono ?_
      rintro e w1 ⟨rfl, hb⟩
      go_wp2_with fail
      go_ret2
      exact ⟨rfl, hb⟩
end Go.Proofs.YtnepogddjinpoaaGreatDoor

namespace Go.Proofs.YtnepogddjinpoaaGreatDoor
open Go.RowKit Go.Shelf
attribute [local go_sem] Oper.semAt_some
set_option linter.unusedVariables false
set_option linter.unusedSimpArgs false

theorem runeCells_good {c : Int} (h : badC c = false) : Lib.runeCells c = Lib.byteCells (encL c) := by
  rw [encL_good h]
  obtain ⟨h1, h2⟩ := good_nat h
  generalize c.toNat = v at h1
  subst h1
  unfold badC at h
  simp at h
  unfold Lib.runeCells Lib.byteCells encR
  by_cases g1 : v < 128
  · rw [if_pos g1, Lib.encodeRuneZ_one (by omega) (by omega)]
    simp [u8_toNat (show v < 256 by omega)]
  · rw [if_neg g1]
    by_cases g2 : v < 2048
    · rw [if_pos g2, Lib.encodeRuneZ_two (by omega) (by omega)]
      simp [u8_toNat (show 192 + v / 64 < 256 by omega), u8_toNat (show 128 + v % 64 < 256 by omega)]
    · rw [if_neg g2]
      by_cases g3 : v < 65536
      · rw [if_pos g3, Lib.encodeRuneZ_three (by omega)]
        simp [u8_toNat (show 224 + v / 4096 < 256 by omega), u8_toNat (show 128 + v / 64 % 64 < 256 by omega), u8_toNat (show 128 + v % 64 < 256 by omega)]
      · rw [if_neg g3, Lib.encodeRuneZ_four (by omega) (by omega)]
        simp [u8_toNat (show 240 + v / 262144 < 256 by omega), u8_toNat (show 128 + v / 4096 % 64 < 256 by omega), u8_toNat (show 128 + v / 64 % 64 < 256 by omega), u8_toNat (show 128 + v % 64 < 256 by omega)]
theorem grown_of_below {U V : World} (hb : Below U.heap.size U V) : U.grownBy V none := ⟨hb.os, hb.tape, hb.output, hb.size, fun k hk _ => hb.block k hk⟩
theorem fixC_no2 {c : Int} (h : ¬ c ≤ 0) : fixC c = c := by unfold fixC; rw [if_neg h]
theorem fixC_yes2 {c : Int} (h : c ≤ 0) : fixC c = 65533 := by unfold fixC; rw [if_pos h]
/-- How many octets the cell at p holds. -/
def cellLen (p : Nat) (w : World) : Nat := match w.cell? ⟨p, 0, none⟩ with
  | some (.string s) => s.size
  | _ => 0
/-- What a round of utf.each keeps. -/
def KpE (p : Nat) (wB U V : World) : Prop := V.heap[p]? = U.heap[p]? ∧ Below wB.heap.size U V
set_option maxHeartbeats 4000000 in
set_option maxRecDepth 100000 in
theorem each_stores (n : Nat) (hn : 2 ≤ n) (p : Nat) (l : List UInt8) (hz : l.length ≤ 1000000000) (wB w0 : World) (hT : Lib.Utf8Tabs 1 2 wB) (hB0 : Below wB.heap.size wB w0) (hp : wB.heap.size ≤ p)
    (h0 : Blk w0 p 9 #[.string ⟨l.toArray⟩]) :
    SeqStores Fence.wide n Tryz.prog 207 #[.pointer (some ⟨p, 0, none⟩)] (fun c : Int => .int .i64 c) p (charsR l) (KpE p wB) w0 := by
  intro lp J W hW hJb hJs hY hJ0
  have h1 : 1 ≤ n := by omega
  have hW0 : Blk W p 9 #[.string ⟨l.toArray⟩] := h0.below hW h0.lt
  have hBW : Below wB.heap.size wB W := hB0.trans (hW.mono hB0.size)
  refine callsIn_of_wp Tryz.func207 rfl trivial ?_ rfl
  simp only [Tryz.ntmps207, List.size_toArray, List.length_cons, List.length_nil, Nat.reduceAdd, Nat.reduceSub, Array.replicate_succ, Array.replicate_zero, List.push_toArray, List.append_toArray, List.nil_append, List.cons_append]
  gi_wp2
  gi_loopw [3] (fun _ wr => ∃ (r : List UInt8) (pre : List Int), r.length ≤ l.length ∧ charsR l = pre ++ charsR r ∧ J pre wr ∧ Blk wr p 9 #[.string ⟨r.toArray⟩] ∧ Below wB.heap.size wB wr) (fun _ wr => cellLen p wr)
  case atStart => exact ⟨l, [], Nat.le_refl _, rfl, hJ0, hW0, hBW⟩
  case round =>
    obtain ⟨r, pre, hrl, hx, hJ, hbk, hBr⟩ := hrel
    have hc := hbk.cell 0
    have hf := hbk.frozen 0
    simp at hc
    have hlt := hbk.lt
    by_cases hr : r = []
    · subst hr
      rw [charsR_nil, List.append_nil] at hx
      subst hx
      gi_wp2
      go_end0
      exact ⟨⟨_, rfl⟩, hJ⟩
    · have hre : r.isEmpty = false := by simp [hr]
      have cD := utfDecode_any r wr (Utf8Tabs_below hT hBr)
      have hd := decR_pos r hr
      have hcc := charsR_cons r hr
      have hkd := decR_kind r
      generalize decR r = d at cD hd hcc hkd
      obtain ⟨c, m⟩ := d
      simp only at cD hd hcc hkd
      have hrz : (r.length : Int) ≤ 1000000000 := by omega
      have hm1 : (m : Int) ≤ (r.length : Int) := by omega
      have hm0 : (0 : Int) ≤ (m : Int) := by omega
      have hex : (⟨r.toArray⟩ : ByteArray).extract m r.length = ⟨(r.drop m).toArray⟩ := by
        have := Lib.extract_from (⟨r.toArray⟩ : ByteArray) m
        rw [mk_size] at this
        exact this
      have cD := hide cD
      clear hr
      gi_wp2_with (refine ⟨trivial, ?_⟩; gi_at_call 208; refine (callsIn_wide.2 cD.out).mono ?_)
      rintro e w1 ⟨rfl, hb1⟩
      have hJ1 := hJb _ _ _ hJ (grown_of_below hb1)
      have hbk1 := hbk.below hb1 hlt
      have hB1 := hBr.trans (hb1.mono hBr.size)
      by_cases hc0 : c ≤ 0
      · have hxx : charsR l = pre ++ 65533 :: charsR (r.drop m) := by rw [hx, hcc, fixC_yes2 hc0]
        obtain ⟨fn, tmps, assign, body, hy, hR⟩ := hY pre 65533 _ w1 hxx hJ1
        try dsimp only at hy
        gi_wp2
        refine hR.mono ?_
        rintro e W3 ⟨rfl, hJ3, hk3, hkB⟩
        have hbk3 : Blk W3 p 9 #[.string ⟨r.toArray⟩] := hk3.trans hbk1
        have c3 := hbk3.cell 0
        have f3 := hbk3.frozen 0
        simp at c3
        have hB3 := hB1.trans (hkB.mono (Nat.le_refl _))
        gi_wp2
        go_roundw
        case rel => exact ⟨r.drop m, pre ++ [65533], by simp; omega, by rw [hxx]; simp, hJs _ _ _ hJ3, by simpa [hex] using hbk3.set_ 0 (.string ⟨(r.drop m).toArray⟩), hB3.setCell (p := ⟨p, 0, none⟩) hp _⟩
        case measure =>
          have e1 : cellLen p wr = r.length := by unfold cellLen; rw [hc]; exact mk_size r
          have e2 : cellLen p (W3.setCell ⟨p, 0, none⟩ (.string ⟨(r.drop m).toArray⟩)) = (r.drop m).length := by
            have := (hbk3.set_ 0 (.string ⟨(r.drop m).toArray⟩)).cell 0
            simp at this
            unfold cellLen; rw [this]; exact mk_size _
          rw [e1]
          first | (rw [e2, List.length_drop]; omega) | (rw [hex, e2, List.length_drop]; omega)
      · have hxx : charsR l = pre ++ c :: charsR (r.drop m) := by rw [hx, hcc, fixC_no2 hc0]
        obtain ⟨fn, tmps, assign, body, hy, hR⟩ := hY pre c _ w1 hxx hJ1
        try dsimp only at hy
        gi_wp2
        refine hR.mono ?_
        rintro e W3 ⟨rfl, hJ3, hk3, hkB⟩
        have hbk3 : Blk W3 p 9 #[.string ⟨r.toArray⟩] := hk3.trans hbk1
        have c3 := hbk3.cell 0
        have f3 := hbk3.frozen 0
        simp at c3
        have hB3 := hB1.trans (hkB.mono (Nat.le_refl _))
        gi_wp2
        go_roundw
        case rel => exact ⟨r.drop m, pre ++ [c], by simp; omega, by rw [hxx]; simp, hJs _ _ _ hJ3, by simpa [hex] using hbk3.set_ 0 (.string ⟨(r.drop m).toArray⟩), hB3.setCell (p := ⟨p, 0, none⟩) hp _⟩
        case measure =>
          have e1 : cellLen p wr = r.length := by unfold cellLen; rw [hc]; exact mk_size r
          have e2 : cellLen p (W3.setCell ⟨p, 0, none⟩ (.string ⟨(r.drop m).toArray⟩)) = (r.drop m).length := by
            have := (hbk3.set_ 0 (.string ⟨(r.drop m).toArray⟩)).cell 0
            simp at this
            unfold cellLen; rw [this]; exact mk_size _
          rw [e1]
          first | (rw [e2, List.length_drop]; omega) | (rw [hex, e2, List.length_drop]; omega)
end Go.Proofs.YtnepogddjinpoaaGreatDoor

namespace Go.Proofs.YtnepogddjinpoaaGreatDoor
open Go.RowKit Go.Shelf
attribute [local go_sem] Oper.semAt_some
set_option linter.unusedVariables false
set_option linter.unusedSimpArgs false

set_option maxHeartbeats 1000000 in
theorem utfEach_in (n : Nat) (l : List UInt8) (w : World) :
    CallsIn Fence.wide n Tryz.prog 164 #[.string ⟨l.toArray⟩] w fun e w' => e = .returned (.func (.func 207) #[] #[.pointer (some ⟨w.heap.size, 0, none⟩)]) ∧ w' = w.alloc (.cells #[.string ⟨l.toArray⟩] 9) := by
  refine callsIn_of_wp Tryz.func164 rfl trivial ?_ rfl
  simp only [Tryz.ntmps164, List.size_toArray, List.length_cons, List.length_nil, Nat.reduceAdd, Nat.reduceSub, Array.replicate_succ, Array.replicate_zero, List.push_toArray, List.append_toArray, List.nil_append, List.cons_append]
  gi_wp2
  go_ret
  exact ⟨rfl, rfl⟩
/-- What Repair keeps between two rounds. -/
def RepI (w : World) (pre : List Int) (W : World) : Prop :=
  IsBT 184 w.heap.size w.heap.size (pre.flatMap encL) W ∧ Below w.heap.size w W ∧ ∃ v, Blk W (w.heap.size + 1) 9 #[v]
theorem isBT_grown {T : TypeId} (hT : BT T) {B b : Nat} {l : List Value} {U V : World} {row : Option Nat} (h : Lib.IsBuilder T 5 B b l U) (hg : U.grownBy V row) (hr : ∀ r, row = some r → ∃ o : Obj, U.heap[r]? = some o ∧ ∀ c t fz, o ≠ .cells c t fz) : Lib.IsBuilder T 5 B b l V := by
  have key : ∀ p, Lib.BuilderAt T 5 B b p l U → Lib.BuilderAt T 5 B b p l V := by
    rintro p ⟨hB, v, hb, hown, hne⟩
    refine ⟨hB, v, ?_, hown.kept hg ?_, hne⟩
    · refine (hg.block b (lt_of_heap hb) ?_).trans hb
      intro e
      obtain ⟨o, ho, hc⟩ := hr b e.symm
      rw [hb] at ho
      exact hc _ _ _ (Option.some.inj ho).symm
    · rcases hown.2 with ⟨rfl, _⟩ | ⟨g, cap, cur, rfl, _, hg', _⟩
      · exact .inl rfl
      · right
        intro e
        obtain ⟨o, ho, hc⟩ := hr g e.symm
        rw [hg'] at ho
        exact hc _ _ _ (Option.some.inj ho).symm
  exact h.imp (key _) (key _)
theorem isBT_far {T : TypeId} {B b p : Nat} {l : List Value} {U : World} {T2 : TypeId} {cs : Array Value} (h : Lib.IsBuilder T 5 B b l U) (hp : Blk U p T2 cs) (hT2 : T2 ≠ 5) (hpb : p ≠ b) (v : Value) : Lib.IsBuilder T 5 B b l (U.setCell ⟨p, 0, none⟩ v) := by
  have key : ∀ q, Lib.BuilderAt T 5 B b q l U → Lib.BuilderAt T 5 B b q l (U.setCell ⟨p, 0, none⟩ v) := by
    rintro q ⟨hB, u, hb, hown, hne⟩
    refine ⟨hB, u, (Below.heap_setCell U ⟨p, 0, none⟩ v b (fun e => hpb e.symm)).trans hb, ⟨hown.1, ?_⟩, hne⟩
    rcases hown.2 with hn | ⟨g, cap, cur, hv, hB2, hg', rest⟩
    · exact .inl hn
    · refine .inr ⟨g, cap, cur, hv, hB2, (Below.heap_setCell U ⟨p, 0, none⟩ v g ?_).trans hg', rest⟩
      intro e
      have e' : g = p := e
      subst e'
      unfold Blk at hp
      rw [hg'] at hp
      injection hp with hp
      injection hp with h1 h2 h3
      exact hT2 h2.symm
  exact h.imp (key _) (key _)
set_option maxHeartbeats 4000000 in
set_option maxRecDepth 100000 in
theorem utfRepair_any (l : List UInt8) (w : World) (hz : l.length ≤ 1000000000) (hT : Lib.Utf8Tabs 1 2 w) :
    Calls Tryz.prog 125 #[.string ⟨l.toArray⟩] w fun e w' => e = .returned (.string ⟨(repairR l).toArray⟩) ∧ Below w.heap.size w w' := by
  refine (callsIn_wide (n := 6)).1 ?_
  refine callsIn_of_wp_marks Tryz.func125 rfl trivial ?_
  simp only [Tryz.ntmps125, List.size_toArray, List.length_cons, List.length_nil, Nat.reduceAdd, Nat.reduceSub, Array.replicate_succ, Array.replicate_zero, List.push_toArray, List.append_toArray, List.nil_append, List.cons_append]
  gi_wp2_with (refine ⟨trivial, ?_⟩; gi_at_call 164; refine (utfEach_in _ l _).mono ?_)
  rintro e w1 ⟨rfl, rfl⟩
  gi_wp2
  obtain ⟨w2, hw2⟩ : ∃ W, (w.alloc (Obj.cells #[Value.pointer none, Value.slice none 0 0] 184)).alloc (Obj.cells #[Value.string ⟨l.toArray⟩] 9) = W := ⟨_, rfl⟩
  rw [hw2]
  have hsz : w2.heap.size = w.heap.size + 2 := by rw [← hw2]; simp
  have hB2 : Below w.heap.size w w2 := by rw [← hw2]; exact ((Below.refl _ w).alloc (Nat.le_refl _) _).alloc (by simp) _
  have hbox : Blk w2 (w.heap.size + 1) 9 #[.string ⟨l.toArray⟩] := by
    have := Blk.new (w.alloc (Obj.cells #[Value.pointer none, Value.slice none 0 0] 184)) 9 #[.string ⟨l.toArray⟩]
    rw [World.size_alloc, hw2] at this
    exact this
  have hbt0 : IsBT 184 w.heap.size w.heap.size [] w2 := by
    rw [← hw2]
    exact isBT_grown btBuilder (isBT_new 184 w w.heap.size (Nat.le_refl _)) (World.grownBy_alloc _ _ none) (fun r e => by cases e)
  clear hw2
  refine wpIn_range_stores rfl (by omega) (gf := 207) (lb := #[.pointer (some ⟨w.heap.size + 1, 0, none⟩)]) rfl trivial (enters_of Tryz.func207 (by kernel_rfl) rfl)
    (each_stores 5 (by omega) (w.heap.size + 1) l hz w w2 hT hB2 (by omega) hbox) (by omega) (Below.refl _ _) ?kt ?kb (RepI w) ?own ?sto ⟨hbt0, hB2, _, hbox⟩
    (fun x => { tmps := #[.string ⟨l.toArray⟩, undef, .string ⟨#[]⟩, .pointer (some ⟨w.heap.size, 0, none⟩), .int .i64 x, .string ⟨l.toArray⟩, .func (.func 207) #[] #[.pointer (some ⟨w.heap.size + 1, 0, none⟩)], .int .i64 x, undef, undef, undef, undef], defers := [] }) ?assign ?body ?done
  case kt => exact fun k1 k2 => ⟨k2.1.trans k1.1, k1.2.trans k2.2⟩
  case kb =>
    intro W i o o' hi ho
    have := lt_of_heap ho
    exact ⟨World.putObj_heap_other (by omega), (Below.refl _ W).grown (grownBy_putObj' W i o') (by omega) (fun k e => by cases e; omega)⟩
  case own =>
    rintro s U V row ⟨h1, h2, v, h3⟩ hg hr
    have hr' : ∀ r, row = some r → ∃ o : Obj, U.heap[r]? = some o ∧ ∀ c t fz, o ≠ .cells c t fz := fun r e => by
      obtain ⟨_, o, ho, hc⟩ := hr r e
      exact ⟨o, ho, fun c t fz e2 => by rw [e2] at hc; cases hc⟩
    refine ⟨isBT_grown btBuilder h1 hg hr', h2.grown hg h2.size (fun k e => by have := (hr k e).1; omega), v, h3.grown hg ?_⟩
    intro e
    have := (hr _ e.symm).1
    omega
  case sto =>
    rintro s U v ⟨h1, h2, u, h3⟩
    exact ⟨isBT_far h1 h3 (by decide) (by omega) v, h2.setCell (p := ⟨w.heap.size + 1, 0, none⟩) (by simp) v, _, h3.set_ 0 v⟩
  case assign =>
    intro lp x W K hK
    gi_wp2
    exact hK
  case body =>
    rintro lp pre x rest W hx ⟨hbt, hbw, v, hblk⟩
    have hgx : badC x = false := charsR_good l x (by rw [hx]; simp)
    obtain ⟨g1, g2⟩ := good_nat hgx
    have hlen : (Lib.byteCells (pre.flatMap encL)).length + 4 ≤ 140737488355328 := by
      have h1 := flat_lenU pre
      have h2 := charsR_len l
      rw [hx] at h2
      simp at h2
      rw [Lib.byteCells_length]
      omega
    have hx0 : 0 ≤ x := by omega
    have hwr : IntKind.i32.wrap x = x := by
      unfold IntKind.wrap
      simp [IntKind.bits]
      omega
    have cW := hide (bt_writeRune_any btBuilder w.heap.size w.heap.size (Lib.byteCells (pre.flatMap encL)) x (by omega) (by omega) W hbt hlen hbw.size)
    gi_wp2_with (refine ⟨trivial, ?_⟩; gi_at_call 165; refine (CallsIn.inRound lp (callsIn_wide.2 cW.out)).mono ?_)
    rintro e W' ⟨⟨u, rfl⟩, hbt', hBe, hO⟩
    gi_wp2
    have hblk' : W'.heap[w.heap.size + 1]? = some (.cells #[v] 9 (0, 0)) := hO _ _ hblk (by simp) (fun c fz e => by injection e with e1 e2 e3; exact absurd e2 (by decide))
    refine ⟨fun k o hk ho => hO k o hk ?_ (fun c fz e => by rw [e] at ho; cases ho), ⟨hblk'.trans hblk.symm, hBe⟩, ?_, hbw.trans hBe, v, hblk'⟩
    · intro e
      have e' : k = w.heap.size := Option.some.inj e
      subst e'
      rcases hbt with ⟨_, q, hq, _⟩ | ⟨_, q, hq, _⟩
      · rw [hq] at hk; cases hk; cases ho
      · rw [hq] at hk; cases hk; cases ho
    · show Lib.IsBuilder _ _ _ _ (Lib.byteCells ((pre ++ [x]).flatMap encL)) W'
      rw [List.flatMap_append, Lib.byteCells_append]
      simpa [runeCells_good hgx] using hbt'
  case done =>
    rintro D W hD ⟨hbt, hbw, v, hblk⟩ hK
    have cS := hide (Tryz.Builder_String_any_k w.heap.size w.heap.size ((charsR l).flatMap encL) W (Lib.IsBuilderF.of hbt) hbw.size)
    gi_wp2_with (refine ⟨trivial, ?_⟩; gi_at_call 128; refine (callsIn_wide.2 cS.out).mono ?_)
    rintro e W' ⟨rfl, _, hBe, hO⟩
    have hK' := hO D _ hK (by intro e; have := Option.some.inj e; omega) (fun c fz e => by cases e)
    gi_wp2
    refine ⟨by simp, .inl ⟨_, _, rfl, run_takeDeferred hK', ?_⟩⟩
    have hlt := lt_of_heap hK'
    exact ⟨_, results_tmp rfl _ _ _, rfl, (hbw.trans hBe).grown (grownBy_putObj' W' D _) (by have := hBe.size; have := hbw.size; omega) (fun k e => by cases e; omega)⟩
end Go.Proofs.YtnepogddjinpoaaGreatDoor
