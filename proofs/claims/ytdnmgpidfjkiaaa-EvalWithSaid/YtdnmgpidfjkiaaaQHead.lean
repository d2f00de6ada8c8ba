/-
  A region that draws its order: first so many operations that read (their values stand in every world of a class), then a few that change the world and stay in the class, then a forced tail that may do anything. One walk.
-/
import Derived.Test.YtdnmgpidfjkiaaaQTail
import Derived.OrdersHeld
namespace Go.Proofs.Ytdnmgpidfjkiaaa
open Go.RowKit
set_option linter.unusedVariables false

section
variable {P : Program} {ops : Array Oper} {md : Region.Mode} {Q : Exit → Act → World → Prop} {S : World → Prop}

def headH (P : Program) (md : Region.Mode) (ops : Array Oper) (Q : Exit → Act → World → Prop) (S : World → Prop) (n : Nat) (L : Array Bool → Act → World → Prop) : Nat → Array Bool → Act → World → Prop
  | 0, b, a, w => L b a w
  | f + 1, b, a, w => Region.ready md ops b ≠ [] ∧ ∀ i ∈ Region.ready md ops b, i < n ∧ wpOp P ops Q i (fun a' w' => S w' ∧ headH P md ops Q S n L f (b.setIfInBounds i true) a' w') a w
theorem headH_any {n g : Nat} {L : Array Bool → Act → World → Prop} (hL : ∀ b a w, L b a w → wpAny P md ops Q g b a w) :
    ∀ (f : Nat) (b : Array Bool) (a : Act) (w : World), headH P md ops Q S n L f b a w → wpAny P md ops Q (f + g) b a w := by
  intro f
  induction f with
  | zero => intro b a w h; rw [Nat.zero_add]; exact hL b a w h
  | succ f ih =>
    intro b a w h
    rw [Nat.add_right_comm]
    exact ⟨fun h0 => absurd h0 h.1, fun i hi => wpOp_mono (fun a' w' h' => ih _ a' w' h'.2) (h.2 i hi).2⟩
theorem headH_first {n i : Nat} {oi : Oper} {v : Value} {L : Array Bool → Act → World → Prop} (hi : ops[i]? = some oi) (hsel : ∀ (j : Nat) (o : Oper) cs b, ops[j]? = some o → o.op ≠ .select cs b)
    (hs : Region.sinkB md ops n = true) (hc : Region.chainB md ops n = true) (hn : n < ops.size) (hin : i < n)
    (hdone : ∀ b a w, L b a w → ∀ j ∈ Region.ready md ops b, n ≤ j) (hQ : ∀ c a w, Q (.panic c) (a.put oi.dst v) w → Q (.panic c) a w) :
    ∀ (f : Nat) (b : Array Bool) (a : Act) (w : World), HeadInv md ops n b →
      (∀ j oj, ops[j]? = some oj → j ≠ i → b.getD j true = false → (∀ e ∈ oj.after, Region.binds md e = true → e.on ≠ i) → oi.apart ops oj = true) →
      i ∈ Region.ready md ops b → YieldsIf P ops S oi v a → S w →
      headH P md ops Q S n L f (b.setIfInBounds i true) (a.put oi.dst v) w → headH P md ops Q S n L (f + 1) b a w := by
  intro f
  induction f with
  | zero =>
    intro b a w inv _ hr hy hS H
    have hun := (mem_ready.1 hr).1
    refine ⟨fun h => by rw [h] at hr; exact absurd hr List.not_mem_nil, fun j hj => ?_⟩
    have hjn : j < n := (Nat.lt_or_ge j n).elim id fun h => absurd hj (tail_waits hs hc hn inv _ i rfl hin hun j h)
    refine ⟨hjn, ?_⟩
    rcases Decidable.em (j = i) with e | e
    · subst e; exact hy.wpOp hi hS ⟨hS, H⟩
    · have := hdone _ _ _ H j (ready_mono hj e)
      omega
  | succ f ih =>
    intro b a w inv hfree hr hy hS H
    have hun := (mem_ready.1 hr).1
    refine ⟨fun h => by rw [h] at hr; exact absurd hr List.not_mem_nil, fun j hj => ?_⟩
    have hjn : j < n := (Nat.lt_or_ge j n).elim id fun h => absurd hj (tail_waits hs hc hn inv _ i rfl hin hun j h)
    refine ⟨hjn, ?_⟩
    rcases Decidable.em (j = i) with e | e
    · subst e; exact hy.wpOp hi hS ⟨hS, H⟩
    · obtain ⟨hjun, oj, hoj, hall⟩ := mem_ready.1 hj
      have hnot : ∀ x ∈ oj.after, Region.binds md x = true → x.on ≠ i := by
        intro x hx hb heq
        have h1 := hall x hx hb
        rw [heq, getD_both hun] at h1
        exact absurd h1 Bool.false_ne_true
      have h2 := wpOp_putIf hoj (hfree j oj hoj e hjun hnot) (fun cs b => hsel i oi cs b hi) (fun cs b => hsel j oj cs b hoj) hQ hy (H.2 j (ready_mono hj e)).2
      refine wpOp_mono (fun a' w' h3 => ⟨h3.2.1, ih (b.setIfInBounds j true) a' w' (inv.set hj hjn) ?_ (ready_mono hr (Ne.symm e)) h3.1 h3.2.1 ?_⟩) h2
      · intro k ok hk hki hkun hno
        refine hfree k ok hk hki ?_ hno
        rcases Decidable.em (j = k) with ejk | ejk
        · subst ejk; exact hjun
        · rwa [getD_set_ne true ejk] at hkun
      · rw [Array.setIfInBounds_comm _ _ e]
        exact h3.2.2
/-- Operations that read, one behind the other, by their places. -/
def walkY (P : Program) (ops : Array Oper) (S : World → Prop) (R : Act → Prop) : List Nat → Act → Prop
  | [], a => R a
  | k :: l, a => ∃ o v, ops[k]? = some o ∧ YieldsIf P ops S o v a ∧ walkY P ops S R l (a.put o.dst v)
/-- Operations that stay in the class, each, by their places. -/
def walkH (P : Program) (ops : Array Oper) (Q : Exit → Act → World → Prop) (S : World → Prop) (R : Act → World → Prop) : List Nat → Act → World → Prop
  | [], a, w => R a w
  | k :: l, a, w => ∃ o, ops[k]? = some o ∧ wpList P ops (fun e a' w' => match e with | .normal => S w' ∧ walkH P ops Q S R l a' w' | e => Q e a' w') [o] a w
theorem wpOp_of_one {k : Nat} {o : Oper} {a : Act} {w : World} {K : Act → World → Prop} (hk : ops[k]? = some o)
    (h : wpList P ops (fun e a' w' => match e with | .normal => K a' w' | e => Q e a' w') [o] a w) : wpOp P ops Q k K a w := by
  unfold wpOp
  simp only [hk]
  simp only [wpList] at h
  split
  · rename_i hw
    simp only [hw, if_true] at h
    rcases h with h | ⟨h1, h2⟩
    · refine .inl ?_
      unfold Oper.wp at *
      generalize (execOp a.eval o).run P w = r at *
      cases r with
      | ok x w' =>
        cases x <;> simp only [Oper.upon] at h ⊢ <;> exact h
      | halt x w' => cases x <;> simp only [Oper.upon] at h ⊢ <;> exact h
    · exact .inr ⟨h1, h2⟩
  · rename_i hw
    simp only [hw] at h
    exact h
def forcedB (md : Region.Mode) (ops : Array Oper) (n g : Nat) : List Nat → Array Bool → Bool
  | [], b => Region.seqB md ops g n b
  | k :: l, b => decide (Region.ready md ops b = [k]) && decide (k < n) && forcedB md ops n g l (b.setIfInBounds k true)
def readsB (md : Region.Mode) (ops : Array Oper) (n g : Nat) (nz : List Nat) : List Nat → Array Bool → Bool
  | [], b => forcedB md ops n g nz b
  | k :: l, b => (Region.ready md ops b).contains k && Region.free md ops b k && decide (k < n) && readsB md ops n g nz l (b.setIfInBounds k true)
theorem headH_forced {n g : Nat} {R : Act → World → Prop} (l : List Nat) :
    ∀ (b : Array Bool) (a : Act) (w : World), forcedB md ops n g l b = true → walkH P ops Q S R l a w →
    headH P md ops Q S n (fun b' a' w' => Region.seqB md ops g n b' = true ∧ R a' w') l.length b a w := by
  induction l with
  | nil => exact fun b a w hB h => ⟨hB, h⟩
  | cons k l ih =>
    intro b a w hB h
    simp only [forcedB, Bool.and_eq_true, decide_eq_true_eq] at hB
    obtain ⟨o, h0, h⟩ := h
    rw [List.length_cons]
    refine ⟨by rw [hB.1.1]; simp, fun i hi => ?_⟩
    rw [hB.1.1] at hi
    obtain rfl : i = k := by simpa using hi
    exact ⟨hB.1.2, wpOp_mono (fun a' w' h' => ⟨h'.1, ih _ a' w' hB.2 h'.2⟩) (wpOp_of_one (K := fun a' w' => S w' ∧ walkH P ops Q S R l a' w') h0 h)⟩
theorem headH_lex {n g : Nat} {R : Act → World → Prop} {w : World} (hsel : Region.noSelect ops = true) (hs : Region.sinkB md ops n = true) (hc : Region.chainB md ops n = true) (hn : n < ops.size) (nz : List Nat)
    (hQ : ∀ (d : Option Tmp) v c a w, Q (.panic c) (a.put d v) w → Q (.panic c) a w) (hS : S w) (l : List Nat) :
    ∀ (b : Array Bool) (a : Act), HeadInv md ops n b →
    readsB md ops n g nz l b = true → walkY P ops S (fun a' => walkH P ops Q S R nz a' w) l a →
    headH P md ops Q S n (fun b' a' w' => Region.seqB md ops g n b' = true ∧ R a' w') (l.length + nz.length) b a w := by
  induction l with
  | nil =>
    intro b a _ hB h
    rw [List.length_nil, Nat.zero_add]
    exact headH_forced nz b a w hB h
  | cons k l ih =>
    intro b a inv hB h
    simp only [readsB, Bool.and_eq_true, decide_eq_true_eq] at hB
    obtain ⟨⟨⟨hr, hf⟩, hkn⟩, hB'⟩ := hB
    have hr' : k ∈ Region.ready md ops b := by simpa using hr
    obtain ⟨o, v, h0, hy, hK⟩ := h
    rw [List.length_cons, Nat.add_right_comm]
    exact headH_first h0 (Region.noSelect_spec hsel) hs hc hn hkn (fun b' a' w' hL => seqB_ready hL.1) (hQ o.dst v) _ b a w inv (Region.free_spec h0 hf) hr' hy hS (ih _ _ (inv.set hr' hkn) hB' hK)
end
def headB (md : Region.Mode) (ops : Array Oper) (rd nz : List Nat) (n : Nat) : Bool :=
  Region.noSelect ops && decide (n < ops.size) && decide (rd.length + nz.length = n) && Region.sinkB md ops n && Region.chainB md ops n && readsB md ops n (ops.size - n) nz rd (Array.replicate ops.size false)
theorem wp_region_head {P : Program} (S : World → Prop) {id : Nat} {Q : Exit → Act → World → Prop} {a : Act} {w : World} {l : List Oper} (rd nz : List Nat) (n : Nat) (hm : P.follows .mixedOrders = true) (hB : headB .any l.toArray rd nz n = true)
    (hQ : ∀ (d : Option Tmp) v c a w, Q (.panic c) (a.put d v) w → Q (.panic c) a w) (hS : S w.drew)
    (h : walkY P l.toArray S (fun a' => walkH P l.toArray Q S (fun a2 w2 => wpList P l.toArray Q (l.drop n) a2 w2) nz a' w.drew) rd a) : (Code.region id l.toArray true).wp P Q a w := by
  simp only [headB, Bool.and_eq_true, decide_eq_true_eq] at hB
  obtain ⟨⟨⟨⟨⟨hsel, hn⟩, hmn⟩, hs⟩, hc⟩, hlex⟩ := hB
  have hn' : n < l.length := by simpa using hn
  have hdl : (l.drop n).length = l.toArray.size - n := by simp
  have inv0 : HeadInv .any l.toArray n (Array.replicate l.toArray.size false) := by
    refine ⟨by simp, fun j oj _ hj => ?_, fun t _ ht => getD_in (by simpa using ht) (getD_replicate_false _ _)⟩
    rw [getD_replicate_false] at hj
    exact absurd hj Bool.false_ne_true
  have H := headH_lex (P := P) (Q := Q) (S := S) (md := .any) (g := l.toArray.size - n) hsel hs hc hn nz hQ hS rd _ a inv0 hlex h
  have H2 := headH_any (g := l.toArray.size - n) (fun b a' w' hL => by
    have := wpAny_of_seq (md := .any) (Q' := Q) (l.drop n) n b a' w' (fun j => by simp [List.getElem?_drop]) (by rw [hdl]; exact hL.1) hL.2
    rwa [hdl] at this) _ _ _ _ H
  refine wp_region_any hm ?_
  rw [hmn, show n + (l.toArray.size - n) = l.toArray.size by simp; omega] at H2
  exact H2
theorem walkY_cons {P : Program} {ops : Array Oper} {S : World → Prop} {R : Act → Prop} {k : Nat} {o : Oper} {l : List Nat} {a : Act} (v : Value) (h0 : ops[k]? = some o) (h : Region.wanted o (yielded ops a.tmps) = true)
    (hv : ∀ w, S w → (execOp a.eval o).run P w = .ok (.value v) w) (hr : walkY P ops S R l (a.put o.dst v)) : walkY P ops S R (k :: l) a := ⟨o, v, h0, .inl ⟨h, hv⟩, hr⟩
/-- A hypothesis that no tactic looks into. -/
def ShutH (p : Prop) : Prop := p
theorem walkH_cons {P : Program} {ops : Array Oper} {Q : Exit → Act → World → Prop} {S : World → Prop} {R : Act → World → Prop} {k : Nat} {o : Oper} {l : List Nat} {a : Act} {w : World} (h0 : ops[k]? = some o)
    (h : ∀ K : Act → World → Prop, ShutH (∀ a' w', S w' → walkH P ops Q S R l a' w' → K a' w') → wpList P ops (fun e a' w' => match e with | .normal => K a' w' | e => Q e a' w') [o] a w) : walkH P ops Q S R (k :: l) a w :=
  ⟨o, h0, h _ fun _ _ h1 h2 => ⟨h1, h2⟩⟩
theorem walkH_nil {P : Program} {ops : Array Oper} {Q : Exit → Act → World → Prop} {S : World → Prop} {R : Act → World → Prop} {a : Act} {w : World} (h : R a w) : walkH P ops Q S R [] a w := h
end Go.Proofs.Ytdnmgpidfjkiaaa
