/-
  PLAIN LAWS: a script's pieces, from suffix to suffix; what stands in a hole turns one piece.
-/
import Derived.Test.YtdnmgpidfjkiaaaDoorM1
import Derived.Test.YtdnmgpidfjkiaaaDoorM2
namespace Go.Proofs.YtdnmgpidfjkiaaaDoor
set_option linter.unusedVariables false

/-- How many octets are ahead of a line's end. -/
def lineN (u : List UInt8) : Nat := (u.takeWhile fun c => !newlB c).length
/-- How many octets are passed up to a remark's end, the end too; is a star ahead? -/
def blkN : Bool → List UInt8 → Option Nat
  | _, [] => none
  | st, c :: r => if st && c == 47 then some 1 else (blkN (c == 42) r).map (· + 1)
/-- A piece's kind, and how many octets it has. -/
def pieceU (f : Bool) : List UInt8 → Int × Option Nat
  | [] => (0, none)
  | c :: r =>
    if wordyB c then (1, some ((c :: r).takeWhile wordyB).length)
    else if c == 34 || c == 39 then (2, (endsG c r false false).map (· + 1))
    else if c == 47 then
      (if Lib.hasPrefix (c :: r) [47, 47] then (4, some (lineN (c :: r)))
       else if Lib.hasPrefix (c :: r) [47, 42] then (4, (blkN false (r.drop 1)).map (· + 2))
       else if f then (3, (endsG 47 r false false).map (· + 1)) else (5, some 1))
    else if c == 96 then (5, none)
    else (5, some 1)
/-- May a value come behind this piece? -/
def freshK (k : Int) (t : List UInt8) : Bool :=
  if k = 1 then wordsL.any (· == t) else if k = 2 ∨ k = 3 then false else if k = 5 then !(Lib.contains [41, 93, 125] t) else true
/-- What is cut of a suffix, and the error. -/
inductive Lx : Nat → Bool → List UInt8 → List (Int × List UInt8) → Int → Prop
  | nil (n : Nat) (f : Bool) : Lx n f [] [] 0
  | blank (n : Nat) (f : Bool) (c : UInt8) (r : List UInt8) (P : List (Int × List UInt8)) (e : Int) (hb : isBlank c = true) (h : Lx n f r P e) : Lx n f (c :: r) P e
  | fault (n : Nat) (f : Bool) (c : UInt8) (r : List UInt8) (hb : isBlank c = false) (hp : (pieceU f (c :: r)).2 = none) : Lx n f (c :: r) [] 33
  | many (n : Nat) (f : Bool) (c : UInt8) (r : List UInt8) (m : Nat) (hb : isBlank c = false) (hp : (pieceU f (c :: r)).2 = some m) (hn : 4096 ≤ n) : Lx n f (c :: r) [] 3
  | one (n : Nat) (f : Bool) (c : UInt8) (r : List UInt8) (k : Int) (m : Nat) (P : List (Int × List UInt8)) (e : Int) (hb : isBlank c = false) (hp : pieceU f (c :: r) = (k, some m)) (hn : n < 4096)
      (h : Lx (n + 1) (freshK k ((c :: r).take m)) ((c :: r).drop m) P e) : Lx n f (c :: r) ((k, (c :: r).take m) :: P) e
theorem Lx.nil_inv {n : Nat} {f : Bool} {P : List (Int × List UInt8)} {e : Int} (h : Lx n f [] P e) : P = [] ∧ e = 0 := by
  cases h; exact ⟨rfl, rfl⟩
theorem Lx.blank_inv {n : Nat} {f : Bool} {c : UInt8} {r : List UInt8} {P : List (Int × List UInt8)} {e : Int} (h : Lx n f (c :: r) P e) (hb : isBlank c = true) : Lx n f r P e := by
  cases h with
  | blank _ _ _ _ _ _ _ h => exact h
  | fault _ _ _ _ h1 => rw [hb] at h1; cases h1
  | many _ _ _ _ _ h1 => rw [hb] at h1; cases h1
  | one _ _ _ _ _ _ _ _ h1 => rw [hb] at h1; cases h1
theorem Lx.fault_inv {n : Nat} {f : Bool} {c : UInt8} {r : List UInt8} {P : List (Int × List UInt8)} {e : Int} (h : Lx n f (c :: r) P e) (hb : isBlank c = false) (hp : (pieceU f (c :: r)).2 = none) : P = [] ∧ e = 33 := by
  cases h with
  | blank _ _ _ _ _ _ h1 => rw [hb] at h1; cases h1
  | fault => exact ⟨rfl, rfl⟩
  | many _ _ _ _ _ _ h1 => rw [hp] at h1; cases h1
  | one _ _ _ _ _ _ _ _ _ h1 => rw [h1] at hp; cases hp
theorem Lx.one_inv {n : Nat} {f : Bool} {c : UInt8} {r : List UInt8} {P : List (Int × List UInt8)} {e : Int} {k : Int} {m : Nat} (h : Lx n f (c :: r) P e) (hb : isBlank c = false) (hp : pieceU f (c :: r) = (k, some m)) :
    (4096 ≤ n ∧ P = [] ∧ e = 3) ∨ (n < 4096 ∧ ∃ Q, P = (k, (c :: r).take m) :: Q ∧ Lx (n + 1) (freshK k ((c :: r).take m)) ((c :: r).drop m) Q e) := by
  cases h with
  | blank _ _ _ _ _ _ h1 => rw [hb] at h1; cases h1
  | fault _ _ _ _ _ h1 => rw [hp] at h1; cases h1
  | many _ _ _ _ _ _ _ hn => exact .inl ⟨hn, rfl, rfl⟩
  | one _ _ _ _ k' m' Q _ _ h1 hn h =>
    rw [hp] at h1
    injection h1 with h2 h3
    injection h3 with h3
    subst h2; subst h3
    exact .inr ⟨hn, Q, rfl, h⟩
/-- Lists of pieces that differ in one text, or in none. -/
inductive OneOff : List (Int × List UInt8) → List (Int × List UInt8) → Prop
  | same (L : List (Int × List UInt8)) : OneOff L L
  | here (k : Int) (t t' : List UInt8) (L : List (Int × List UInt8)) : OneOff ((k, t) :: L) ((k, t') :: L)
  | cons (p : Int × List UInt8) (L L' : List (Int × List UInt8)) (h : OneOff L L') : OneOff (p :: L) (p :: L')
def RelL (L1 : List (Int × List UInt8)) (e1 : Int) (L2 : List (Int × List UInt8)) (e2 : Int) : Prop := e1 = e2 ∧ OneOff L1 L2
theorem lx_det {n : Nat} {f : Bool} {u : List UInt8} {L1 : List (Int × List UInt8)} {e1 : Int} (h1 : Lx n f u L1 e1) : ∀ {L2 : List (Int × List UInt8)} {e2 : Int}, Lx n f u L2 e2 → L1 = L2 ∧ e1 = e2 := by
  induction h1 with
  | nil n f => intro L2 e2 h2; obtain ⟨rfl, rfl⟩ := h2.nil_inv; exact ⟨rfl, rfl⟩
  | blank n f c r P e hb _ ih => intro L2 e2 h2; exact ih (h2.blank_inv hb)
  | fault n f c r hb hp => intro L2 e2 h2; obtain ⟨rfl, rfl⟩ := h2.fault_inv hb hp; exact ⟨rfl, rfl⟩
  | many n f c r m hb hp hn =>
    intro L2 e2 h2
    have hp' : pieceU f (c :: r) = ((pieceU f (c :: r)).1, some m) := by rw [← hp]
    rcases h2.one_inv hb hp' with ⟨_, rfl, rfl⟩ | ⟨h, _⟩
    · exact ⟨rfl, rfl⟩
    · omega
  | one n f c r k m P e hb hp hn _ ih =>
    intro L2 e2 h2
    rcases h2.one_inv hb hp with ⟨h, _⟩ | ⟨_, Q, rfl, h⟩
    · omega
    · obtain ⟨rfl, rfl⟩ := ih h
      exact ⟨rfl, rfl⟩
theorem rel_det {n : Nat} {f : Bool} {u : List UInt8} {L1 L2 : List (Int × List UInt8)} {e1 e2 : Int} (h1 : Lx n f u L1 e1) (h2 : Lx n f u L2 e2) : RelL L1 e1 L2 e2 := by
  obtain ⟨rfl, rfl⟩ := lx_det h1 h2
  exact ⟨rfl, .same _⟩
/-- The next piece is one and the same. -/
theorem sim_step {n m : Nat} {f : Bool} {c : UInt8} {r z1 z2 : List UInt8} {k : Int} {L1 L2 : List (Int × List UInt8)} {e1 e2 : Int} (hb : isBlank c = false) (hm : m ≤ (c :: r).length)
    (h1 : pieceU f (c :: (r ++ z1)) = (k, some m)) (h2 : pieceU f (c :: (r ++ z2)) = (k, some m)) (l1 : Lx n f (c :: (r ++ z1)) L1 e1) (l2 : Lx n f (c :: (r ++ z2)) L2 e2)
    (next : ∀ M1 M2, Lx (n + 1) (freshK k ((c :: r).take m)) ((c :: r).drop m ++ z1) M1 e1 → Lx (n + 1) (freshK k ((c :: r).take m)) ((c :: r).drop m ++ z2) M2 e2 → RelL M1 e1 M2 e2) : RelL L1 e1 L2 e2 := by
  have ht : ∀ z, (c :: (r ++ z)).take m = (c :: r).take m := fun z => by rw [← List.cons_append, List.take_append_of_le_length hm]
  have hd : ∀ z, (c :: (r ++ z)).drop m = (c :: r).drop m ++ z := fun z => by rw [← List.cons_append, List.drop_append_of_le_length hm]
  rcases l1.one_inv hb h1 with ⟨g1, rfl, rfl⟩ | ⟨g1, Q1, rfl, q1⟩
  · rcases l2.one_inv hb h2 with ⟨_, rfl, rfl⟩ | ⟨g2, _⟩
    · exact ⟨rfl, .same _⟩
    · omega
  · rcases l2.one_inv hb h2 with ⟨g2, _⟩ | ⟨_, Q2, rfl, q2⟩
    · omega
    · rw [ht, hd] at q1 q2
      obtain ⟨he, ho⟩ := next _ _ q1 q2
      refine ⟨he, ?_⟩
      rw [ht, ht]
      exact .cons _ _ _ ho
/-- The next piece has another text; all behind it is one and the same. -/
theorem sim_here {n m1 m2 : Nat} {f : Bool} {c : UInt8} {r1 r2 z : List UInt8} {k : Int} {L1 L2 : List (Int × List UInt8)} {e1 e2 : Int} (hb : isBlank c = false) (hk : k = 2)
    (h1 : pieceU f (c :: r1) = (k, some m1)) (h2 : pieceU f (c :: r2) = (k, some m2)) (l1 : Lx n f (c :: r1) L1 e1) (l2 : Lx n f (c :: r2) L2 e2) (d1 : (c :: r1).drop m1 = z) (d2 : (c :: r2).drop m2 = z) : RelL L1 e1 L2 e2 := by
  subst hk
  rcases l1.one_inv hb h1 with ⟨g1, rfl, rfl⟩ | ⟨g1, Q1, rfl, q1⟩
  · rcases l2.one_inv hb h2 with ⟨_, rfl, rfl⟩ | ⟨g2, _⟩
    · exact ⟨rfl, .same _⟩
    · omega
  · rcases l2.one_inv hb h2 with ⟨g2, _⟩ | ⟨_, Q2, rfl, q2⟩
    · omega
    · have e1 : ∀ t, freshK 2 t = false := fun t => by unfold freshK; simp
      rw [d1, e1] at q1
      rw [d2, e1] at q2
      obtain ⟨rfl, rfl⟩ := lx_det q1 q2
      exact ⟨rfl, .here _ _ _ _⟩
theorem map_some {o : Option Nat} {k m : Nat} (h : o = some m) : o.map (· + k) = some (m + k) := by rw [h]; rfl
/-- Within a text in quotes. -/
theorem quote_feed (q : UInt8) (st : Nat) (hq : (q = 34 ∧ st = 2) ∨ (q = 39 ∧ st = 3)) : ∀ (r : List UInt8) (esc : Bool) (w : List UInt8),
    (∃ m, m ≤ r.length ∧ (∀ z, endsG q (r ++ z) esc false = some m) ∧ feedB (if esc then st + 2 else st, w) r = feedB (1, []) (r.drop m)) ∨
    (feedB (if esc then st + 2 else st, w) r).1 = 15 ∨ (feedB (if esc then st + 2 else st, w) r).1 = st + 2 ∨
    ((feedB (if esc then st + 2 else st, w) r).1 = st ∧ ∀ z, endsG q (r ++ z) esc false = (endsG q z false false).map (· + r.length)) := by
  intro r
  induction r with
  | nil =>
    intro esc w
    cases esc
    · exact .inr (.inr (.inr ⟨rfl, fun z => by simp⟩))
    · exact .inr (.inr (.inl rfl))
  | cons c r ih =>
    intro esc w
    have go : ∀ (esc2 : Bool), (∀ z, endsG q (c :: r ++ z) esc false = (endsG q (r ++ z) esc2 false).map (· + 1)) → stepB (if esc then st + 2 else st, w) c = (if esc2 then st + 2 else st, []) →
        (∃ m, m ≤ (c :: r).length ∧ (∀ z, endsG q (c :: r ++ z) esc false = some m) ∧ feedB (if esc then st + 2 else st, w) (c :: r) = feedB (1, []) ((c :: r).drop m)) ∨
        (feedB (if esc then st + 2 else st, w) (c :: r)).1 = 15 ∨ (feedB (if esc then st + 2 else st, w) (c :: r)).1 = st + 2 ∨
        ((feedB (if esc then st + 2 else st, w) (c :: r)).1 = st ∧ ∀ z, endsG q (c :: r ++ z) esc false = (endsG q z false false).map (· + (c :: r).length)) := by
      intro esc2 h1 h2
      rw [feedB_cons, h2]
      rcases ih esc2 [] with ⟨m, hm, he, hf⟩ | h | h | ⟨h, he⟩
      · exact .inl ⟨m + 1, by simp; omega, fun z => by rw [h1, he]; rfl, by rw [hf, List.drop_succ_cons]⟩
      · exact .inr (.inl h)
      · exact .inr (.inr (.inl h))
      · refine .inr (.inr (.inr ⟨h, fun z => ?_⟩))
        rw [h1, he]
        cases endsG q z false false with
        | none => rfl
        | some n => simp; omega
    cases esc with
    | true =>
      refine go false (fun z => by rw [List.cons_append, endsG_esc]) ?_
      rcases hq with ⟨_, rfl⟩ | ⟨_, rfl⟩ <;> rfl
    | false =>
      have hst : stepB (st, w) c = (quotedB st c, []) := by rcases hq with ⟨_, rfl⟩ | ⟨_, rfl⟩ <;> rfl
      have hqq : (if st == 3 then (39 : UInt8) else 34) = q := by rcases hq with ⟨rfl, rfl⟩ | ⟨rfl, rfl⟩ <;> rfl
      have h47 : (q == 47) = false := by rcases hq with ⟨rfl, _⟩ | ⟨rfl, _⟩ <;> rfl
      have hes : (if st == 3 then 5 else 4) = st + 2 := by rcases hq with ⟨_, rfl⟩ | ⟨_, rfl⟩ <;> rfl
      have hqn : q ≠ 92 ∧ newlB q = false ∧ q ≠ 93 := by rcases hq with ⟨rfl, _⟩ | ⟨rfl, _⟩ <;> decide
      unfold quotedB at hst
      rw [hqq, hes] at hst
      have heg : ∀ z, endsG q (c :: r ++ z) false false = if c == 92 then (endsG q (r ++ z) true false).map (· + 1) else if newlB c then none else if c == 93 then (endsG q (r ++ z) false false).map (· + 1) else if c == q then some 1 else (endsG q (r ++ z) false false).map (· + 1) := by
        intro z
        rw [List.cons_append, endsG_cons, h47]
        simp
      by_cases g1 : c = q
      · subst g1
        refine .inl ⟨1, by simp, fun z => ?_, ?_⟩
        · rw [heg, if_neg (by simpa using hqn.1), if_neg (by rw [hqn.2.1]; decide), if_neg (by simpa using hqn.2.2), if_pos (by simp)]
        · show feedB (st, w) (c :: r) = feedB (1, []) r
          rw [feedB_cons, hst, if_pos (by simp)]
      · have g1' : (c == q) = false := by simpa using g1
        rw [g1', if_neg (by decide)] at hst
        by_cases g2 : c = 92
        · subst g2
          refine go true (fun z => by rw [heg]; rfl) ?_
          show stepB (st, w) 92 = _
          rw [hst]; rfl
        · have g2' : (c == 92) = false := by simpa using g2
          rw [g2', if_neg (by decide)] at hst
          rcases Bool.eq_false_or_eq_true (newlB c) with g3 | g3
          · rw [g3, if_pos rfl] at hst
            refine .inr (.inl ?_)
            show (feedB (st, w) (c :: r)).1 = 15
            rw [feedB_cons, hst]
            exact feedB_barred _ _
          · rw [g3, if_neg (by decide)] at hst
            refine go false (fun z => ?_) ?_
            · rw [heg, g2', g3, g1']; simp
            · show stepB (st, w) c = _
              rw [hst]; rfl
/-- Within a pattern. -/
theorem pat_feed : ∀ (r : List UInt8) (esc cl : Bool) (w : List UInt8),
    (∃ m, m ≤ r.length ∧ (∀ z, endsG 47 (r ++ z) esc cl = some m) ∧ feedB ((if cl then 11 else 9) + (if esc then 1 else 0), w) r = feedB (1, []) (r.drop m)) ∨
    9 ≤ (feedB ((if cl then 11 else 9) + (if esc then 1 else 0), w) r).1 := by
  intro r
  induction r with
  | nil => intro esc cl w; right; cases esc <;> cases cl <;> simp [feedB]
  | cons c r ih =>
    intro esc cl w
    have go : ∀ (esc2 cl2 : Bool), (∀ z, endsG 47 (c :: r ++ z) esc cl = (endsG 47 (r ++ z) esc2 cl2).map (· + 1)) → stepB ((if cl then 11 else 9) + (if esc then 1 else 0), w) c = ((if cl2 then 11 else 9) + (if esc2 then 1 else 0), []) →
        (∃ m, m ≤ (c :: r).length ∧ (∀ z, endsG 47 (c :: r ++ z) esc cl = some m) ∧ feedB ((if cl then 11 else 9) + (if esc then 1 else 0), w) (c :: r) = feedB (1, []) ((c :: r).drop m)) ∨
        9 ≤ (feedB ((if cl then 11 else 9) + (if esc then 1 else 0), w) (c :: r)).1 := by
      intro esc2 cl2 h1 h2
      rw [feedB_cons, h2]
      rcases ih esc2 cl2 [] with ⟨m, hm, he, hf⟩ | h
      · exact .inl ⟨m + 1, by simp; omega, fun z => by rw [h1, he]; rfl, by rw [hf, List.drop_succ_cons]⟩
      · exact .inr h
    cases esc with
    | true =>
      refine go false cl (fun z => by rw [List.cons_append, endsG_esc]) ?_
      cases cl <;> rfl
    | false =>
      have hst : stepB ((if cl then 11 else 9) + 0, w) c = (matchedB (if cl then 11 else 9) c, []) := by cases cl <;> rfl
      have heg : ∀ z, endsG 47 (c :: r ++ z) false cl = if c == 92 then (endsG 47 (r ++ z) true cl).map (· + 1) else if newlB c then none else if c == 91 then (endsG 47 (r ++ z) false true).map (· + 1) else if c == 93 then (endsG 47 (r ++ z) false false).map (· + 1) else if c == 47 && !cl then some 1 else (endsG 47 (r ++ z) false cl).map (· + 1) := by
        intro z
        rw [List.cons_append, endsG_cons]
        simp
      unfold matchedB at hst
      by_cases g1 : c = 92
      · subst g1
        refine go true cl (fun z => by rw [heg]; rfl) ?_
        show stepB ((if cl then 11 else 9) + 0, w) 92 = _
        rw [hst]; rfl
      · have g1' : (c == 92) = false := by simpa using g1
        rcases Bool.eq_false_or_eq_true (newlB c) with g3 | g3
        · simp only [g3, if_true] at hst
          right
          show 9 ≤ (feedB ((if cl then 11 else 9) + 0, w) (c :: r)).1
          rw [feedB_cons, hst, feedB_barred]
          decide
        · simp only [g3, g1', Bool.false_eq_true, if_false] at hst
          by_cases g4 : c = 91
          · subst g4
            refine go false true (fun z => by rw [heg, g1', g3]; rfl) ?_
            show stepB ((if cl then 11 else 9) + 0, w) 91 = _
            rw [hst]
            cases cl <;> rfl
          · have g4' : (c == 91) = false := by simpa using g4
            by_cases g5 : c = 93
            · subst g5
              refine go false false (fun z => by rw [heg, g1', g3, g4']; rfl) ?_
              show stepB ((if cl then 11 else 9) + 0, w) 93 = _
              rw [hst]
              cases cl <;> rfl
            · have g5' : (c == 93) = false := by simpa using g5
              by_cases g6 : c = 47 ∧ cl = false
              · obtain ⟨rfl, rfl⟩ := g6
                refine .inl ⟨1, by simp, fun z => by rw [heg, g1', g3, g4', g5']; rfl, ?_⟩
                show feedB (9 + 0, w) (47 :: r) = feedB (1, []) r
                rw [feedB_cons]
                have := hst
                rw [show stepB (9 + 0, w) 47 = _ from this]
                rfl
              · have g6' : (c == 47 && !cl) = false := by
                  rcases Bool.eq_false_or_eq_true (c == 47 && !cl) with h | h
                  · simp at h; exact absurd h g6
                  · exact h
                refine go false cl (fun z => by rw [heg, g1', g3, g4', g5', g6']; rfl) ?_
                show stepB ((if cl then 11 else 9) + 0, w) c = _
                rw [hst]
                simp only [g4', g5']
                cases cl with
                | true => rfl
                | false =>
                  have : (c == 47) = false := by simpa using g6'
                  rw [this]; rfl
/-- Within a remark up to the line's end. -/
theorem line_feed : ∀ (r : List UInt8) (w : List UInt8),
    (∃ r1 c r2, r = r1 ++ c :: r2 ∧ newlB c = true ∧ (r1.all fun c => !newlB c) = true ∧ feedB (6, w) r = feedB (0, []) r2) ∨ (feedB (6, w) r).1 = 6 := by
  intro r
  induction r with
  | nil => intro w; exact .inr rfl
  | cons c r ih =>
    intro w
    rw [feedB_cons]
    rcases Bool.eq_false_or_eq_true (newlB c) with g | g
    · refine .inl ⟨[], c, r, rfl, g, rfl, ?_⟩
      show feedB (if newlB c then 0 else 6, []) r = _
      rw [g]; rfl
    · rw [show stepB (6, w) c = (6, []) by show (if newlB c then 0 else 6, ([] : List UInt8)) = _; rw [g]; rfl]
      rcases ih [] with ⟨r1, d, r2, rfl, h1, h2, h3⟩ | h
      · exact .inl ⟨c :: r1, d, r2, rfl, h1, by rw [List.all_cons, g, h2]; rfl, h3⟩
      · exact .inr h
/-- Within a remark of more lines. -/
theorem block_feed : ∀ (r : List UInt8) (st : Bool) (w : List UInt8),
    (∃ m, m ≤ r.length ∧ (∀ z, blkN st (r ++ z) = some m) ∧ feedB (if st then 8 else 7, w) r = feedB (0, []) (r.drop m)) ∨ 7 ≤ (feedB (if st then 8 else 7, w) r).1 := by
  intro r
  induction r with
  | nil => intro st w; right; cases st <;> simp [feedB]
  | cons c r ih =>
    intro st w
    have hs : stepB (if st then 8 else 7, w) c = (remarkB (if st then 8 else 7) c, []) := by cases st <;> rfl
    by_cases g : st = true ∧ c = 47
    · obtain ⟨rfl, rfl⟩ := g
      refine .inl ⟨1, by simp, fun z => ?_, ?_⟩
      · rw [List.cons_append, blkN]; rfl
      · rw [feedB_cons, hs]; rfl
    · have g' : (st && c == 47) = false := by
        rcases Bool.eq_false_or_eq_true (st && c == 47) with h | h
        · simp at h; exact absurd h g
        · exact h
      have hn : stepB (if st then 8 else 7, w) c = (if (c == 42) then 8 else 7, []) := by
        rw [hs]
        unfold remarkB
        rcases Bool.eq_false_or_eq_true (c == 42) with h | h
        · rw [h]; rfl
        · rw [h]
          cases st with
          | false => rfl
          | true =>
            have : (c == 47) = false := by simpa using g'
            rw [this]; rfl
      rw [feedB_cons, hn]
      rcases ih (c == 42) [] with ⟨m, hm, he, hf⟩ | h
      · refine .inl ⟨m + 1, by simp; omega, fun z => ?_, ?_⟩
        · rw [List.cons_append, blkN, g', he]; rfl
        · rw [hf, List.drop_succ_cons]
      · exact .inr h
/-- A word. -/
theorem word_feed : ∀ (l r : List UInt8) (p : Nat) (w : List UInt8), l.all wordyB = true → p ≤ 1 → l ≠ [] → feedB (p, w) (l ++ r) = feedB (1, if w.length < 16 then (w ++ l).take 16 else w) r := by
  intro l
  induction l with
  | nil => intro r p w _ _ h; exact absurd rfl h
  | cons c l ih =>
    intro r p w h hp _
    rw [List.all_cons, Bool.and_eq_true] at h
    have hs : stepB (p, w) c = (1, if w.length < 16 then w ++ [c] else w) := by
      have : p = 0 ∨ p = 1 := by omega
      rcases this with rfl | rfl <;> (show codeB _ w c = _; unfold codeB; rw [h.1]; rfl)
    rw [List.cons_append, feedB_cons, hs]
    have he : ∀ w' : List UInt8, w'.length ≤ 16 → w'.take 16 = w' := fun w' h => List.take_of_length_le h
    by_cases hl : l = []
    · subst hl
      rw [List.nil_append]
      by_cases hw : w.length < 16
      · rw [if_pos hw, if_pos hw, he (w ++ [c]) (by simp; omega)]
      · rw [if_neg hw, if_neg hw]
    · rw [ih r 1 _ h.2 (by omega) hl]
      by_cases hw : w.length < 16
      · rw [if_pos hw, if_pos hw]
        by_cases hw2 : (w ++ [c]).length < 16
        · rw [if_pos hw2]; simp
        · rw [if_neg hw2]
          have h16 : (w ++ [c]).length = 16 := by simp at hw2 ⊢; omega
          congr 2
          rw [show w ++ c :: l = (w ++ [c]) ++ l by simp, List.take_append_of_le_length (by omega), he _ (by omega)]
      · rw [if_neg hw, if_neg hw, if_neg hw]
theorem words_take (l : List UInt8) : (wordsL.any (· == l.take 16)) = wordsL.any (· == l) := by
  by_cases h : l.length ≤ 16
  · rw [List.take_of_length_le h]
  · have hno : ∀ t : List UInt8, 11 ≤ t.length → wordsL.any (· == t) = false := by
      intro t ht
      rw [List.any_eq_false]
      intro x hx
      have hx' : x.length ≤ 10 := by
        have : ∀ x ∈ wordsL, x.length ≤ 10 := by decide
        exact this x hx
      simp
      intro e
      rw [e] at hx'
      omega
    rw [hno l (by omega), hno (l.take 16) (by simp; omega)]
theorem ended_words (p : Nat) (l : List UInt8) (h : l ≠ []) (hp : p ≠ 0) : decide (endedB p (l.take 16) = 0) = wordsL.any (· == l) := by
  have h2 : (l.take 16 == []) = false := by
    cases l with
    | nil => exact absurd rfl h
    | cons c l => rfl
  unfold endedB
  rw [h2, words_take]
  cases wordsL.any (· == l) <;> simp [hp]
theorem ended_le {p : Nat} {w : List UInt8} (h : p ≤ 1) : endedB p w ≤ 1 := by unfold endedB; split <;> omega
theorem ended_nil (p : Nat) : endedB p [] = p := by unfold endedB; simp
theorem contains_one (c : UInt8) : Lib.contains [41, 93, 125] [c] = (c == 41 || (c == 93 || c == 125)) := by
  have := allBytes (fun c => Lib.contains [41, 93, 125] [c] == (c == 41 || (c == 93 || c == 125))) (by decide +kernel) c
  simpa using this
theorem blank_same (c : UInt8) : blankB c = isBlank c := by
  have := allBytes (fun c => blankB c == isBlank c) (by decide +kernel) c
  simpa using this
theorem newl_blank {c : UInt8} (h : newlB c = true) : isBlank c = true := by
  have := allBytes (fun c => !(newlB c) || isBlank c) (by decide +kernel) c
  rw [h] at this
  simpa using this
theorem blank_notword {c : UInt8} (h : isBlank c = true) : wordyB c = false := by
  have := allBytes (fun c => !(isBlank c) || !(wordyB c)) (by decide +kernel) c
  rw [h] at this
  simpa using this
theorem step_code {p : Nat} (w : List UInt8) (c : UInt8) (hp : p ≤ 1) (hc : wordyB c = false) : stepB (p, w) c = (signB (endedB p w) c, []) := by
  have : p = 0 ∨ p = 1 := by omega
  rcases this with rfl | rfl <;> (show codeB _ w c = _; unfold codeB; rw [hc]; rfl)
theorem sign_other {p : Nat} {c : UInt8} (hb : isBlank c = false) (h1 : (c == 34 || c == 39) = false) (h2 : (c == 47) = false) (h3 : (c == 96) = false) : signB p c = if (c == 41 || (c == 93 || c == 125)) then 1 else 0 := by
  rw [Bool.or_eq_false_iff] at h1
  unfold signB
  rw [blank_same, hb, h1.1, h1.2, h2, h3]
  rfl
/-- What stands in a hole: behind code a text's literal, blanks around; within a text an escaped one. -/
def HoleX (p : Nat) (x y : List UInt8) : Prop :=
  (p ≤ 1 ∧ ∃ s t, x = 32 :: (quoteL s ++ [32]) ∧ y = 32 :: (quoteL t ++ [32])) ∨ ((p = 2 ∨ p = 3) ∧ ∃ s t, x = escR s ∧ y = escR t)
theorem HoleX.le {p : Nat} {x y : List UInt8} (h : HoleX p x y) : p ≤ 3 := by
  rcases h with ⟨h, _⟩ | ⟨h, _⟩ <;> omega
theorem pieceU_cons (f : Bool) (c : UInt8) (r : List UInt8) : pieceU f (c :: r) =
    if wordyB c then (1, some ((c :: r).takeWhile wordyB).length)
    else if c == 34 || c == 39 then (2, (endsG c r false false).map (· + 1))
    else if c == 47 then
      (if Lib.hasPrefix (c :: r) [47, 47] then (4, some (lineN (c :: r)))
       else if Lib.hasPrefix (c :: r) [47, 42] then (4, (blkN false (r.drop 1)).map (· + 2))
       else if f then (3, (endsG 47 r false false).map (· + 1)) else (5, some 1))
    else if c == 96 then (5, none)
    else (5, some 1) := rfl
theorem piece_word {f : Bool} {c : UInt8} {u : List UInt8} (h : wordyB c = true) : pieceU f (c :: u) = (1, some ((c :: u).takeWhile wordyB).length) := by
  rw [pieceU_cons, if_pos h]
theorem piece_text {f : Bool} {c : UInt8} {u : List UInt8} (h : c = 34 ∨ c = 39) : pieceU f (c :: u) = (2, (endsG c u false false).map (· + 1)) := by
  unfold pieceU
  rcases h with rfl | rfl <;> rfl
theorem piece_line {f : Bool} {u : List UInt8} : pieceU f (47 :: 47 :: u) = (4, some (lineN u + 2)) := by
  have : lineN (47 :: 47 :: u) = lineN u + 2 := by
    unfold lineN
    rw [List.takeWhile_cons_of_pos (by decide), List.takeWhile_cons_of_pos (by decide)]; rfl
  rw [pieceU_cons, if_neg (by decide), if_neg (by decide), if_pos (by decide), if_pos (by unfold Lib.hasPrefix; simp), this]
theorem piece_block {f : Bool} {u : List UInt8} : pieceU f (47 :: 42 :: u) = (4, (blkN false u).map (· + 2)) := by
  rw [pieceU_cons, if_neg (by decide), if_neg (by decide), if_pos (by decide), if_neg (by unfold Lib.hasPrefix; simp [List.isPrefixOf]), if_pos (by unfold Lib.hasPrefix; simp [List.isPrefixOf])]
  rfl
theorem piece_slash {f : Bool} {d : UInt8} {u : List UInt8} (h1 : d ≠ 47) (h2 : d ≠ 42) : pieceU f (47 :: d :: u) = if f then (3, (endsG 47 (d :: u) false false).map (· + 1)) else (5, some 1) := by
  rw [pieceU_cons, if_neg (by decide), if_neg (by decide), if_pos (by decide), if_neg (by unfold Lib.hasPrefix; simp [List.isPrefixOf]; exact fun e => h1 e.symm), if_neg (by unfold Lib.hasPrefix; simp [List.isPrefixOf]; exact fun e => h2 e.symm)]
theorem piece_sign {f : Bool} {c : UInt8} {u : List UInt8} (h0 : wordyB c = false) (h1 : (c == 34 || c == 39) = false) (h2 : (c == 47) = false) (h3 : (c == 96) = false) : pieceU f (c :: u) = (5, some 1) := by
  rw [pieceU_cons, h0, h1, h2, h3]; rfl
theorem fresh_word (l : List UInt8) : freshK 1 l = wordsL.any (· == l) := by unfold freshK; rw [if_pos rfl]
theorem fresh_text (l : List UInt8) : freshK 2 l = false := by unfold freshK; simp
theorem fresh_pat (l : List UInt8) : freshK 3 l = false := by unfold freshK; simp
theorem fresh_rem (l : List UInt8) : freshK 4 l = true := by unfold freshK; simp
theorem fresh_sign (l : List UInt8) : freshK 5 l = !(Lib.contains [41, 93, 125] l) := by unfold freshK; simp
theorem take_len_append (l r : List UInt8) : (l ++ r).take l.length = l := List.take_left ..
set_option maxHeartbeats 1000000 in
theorem sim (x y b : List UInt8) (p : Nat) (hX : HoleX p x y) : ∀ (N : Nat) (a : List UInt8) (n : Nat) (f : Bool) (part : Nat) (word : List UInt8) (L1 L2 : List (Int × List UInt8)) (e1 e2 : Int), a.length ≤ N → part ≤ 1 → f = decide (endedB part word = 0) →
    (∀ c r, a = c :: r → wordyB c = true → word = []) → (feedB (part, word) a).1 = p → Lx n f (a ++ (x ++ b)) L1 e1 → Lx n f (a ++ (y ++ b)) L2 e2 → RelL L1 e1 L2 e2 := by
  intro N
  induction N with
  | zero =>
    intro a n f part word L1 L2 e1 e2 hN hp hf hw hfe l1 l2
    obtain rfl : a = [] := List.eq_nil_of_length_eq_zero (by omega)
    have hfe : part = p := hfe
    rcases hX with ⟨_, s, t, rfl, rfl⟩ | ⟨h, _⟩
    · have g : ∀ s : List UInt8, [] ++ ((32 :: (quoteL s ++ [32])) ++ b) = 32 :: 34 :: (escR s ++ 34 :: (32 :: b)) := fun s => by unfold quoteL; simp
      rw [g] at l1 l2
      have hpc : ∀ s : List UInt8, pieceU f (34 :: (escR s ++ 34 :: (32 :: b))) = (2, some ((escR s).length + 2)) := fun s => by
        rw [piece_text (.inl rfl), esc_ends 34 (.inl rfl)]; rfl
      have hd : ∀ s : List UInt8, (34 :: (escR s ++ 34 :: (32 :: b))).drop ((escR s).length + 2) = 32 :: b := fun s => by
        rw [show (34 :: (escR s ++ 34 :: (32 :: b))) = (34 :: (escR s ++ [34])) ++ (32 :: b) by simp, show (escR s).length + 2 = (34 :: (escR s ++ [34])).length by simp, List.drop_left]
      exact sim_here (by decide) rfl (hpc s) (hpc t) (l1.blank_inv (by decide)) (l2.blank_inv (by decide)) (hd s) (hd t)
    · omega
  | succ N ih =>
    intro a n f part word L1 L2 e1 e2 hN hp hf hw hfe l1 l2
    cases a with
    | nil => exact ih [] n f part word L1 L2 e1 e2 (Nat.zero_le _) hp hf hw hfe l1 l2
    | cons c r =>
      have hN : r.length ≤ N := by simpa using hN
      have hp3 := hX.le
      rw [List.cons_append] at l1 l2
      rcases Bool.eq_false_or_eq_true (isBlank c) with hb | hb
      · have h0 := blank_notword hb
        rw [feedB_cons, step_code word c hp h0, show signB (endedB part word) c = endedB part word by unfold signB; rw [blank_same, hb]; rfl] at hfe
        exact ih r n f (endedB part word) [] L1 L2 e1 e2 hN (ended_le hp) (by rw [ended_nil]; exact hf) (fun _ _ _ _ => rfl) hfe (l1.blank_inv hb) (l2.blank_inv hb)
      rcases Bool.eq_false_or_eq_true (wordyB c) with h0 | h0
      · obtain rfl := hw c r rfl h0
        have hsplit : (c :: r).takeWhile wordyB ++ (c :: r).dropWhile wordyB = c :: r := List.takeWhile_append_dropWhile
        have hall : ((c :: r).takeWhile wordyB).all wordyB = true := by
          exact List.all_takeWhile
        have hne : (c :: r).takeWhile wordyB ≠ [] := by rw [List.takeWhile_cons_of_pos h0]; simp
        have hhead : ∀ d u, (c :: r).dropWhile wordyB = d :: u → wordyB d = false := by
          intro d u h
          have := List.head?_dropWhile_not wordyB (c :: r)
          rw [h] at this
          simpa using this
        generalize (c :: r).takeWhile wordyB = l at hsplit hall hne
        generalize (c :: r).dropWhile wordyB = r' at hsplit hhead
        have hfe2 : (feedB (1, l.take 16) r').1 = p := by
          rw [← hsplit, word_feed l r' part [] hall hp hne] at hfe
          simpa using hfe
        have hpc : ∀ z, (r' = [] → z.takeWhile wordyB = []) → pieceU f (c :: (r ++ z)) = (1, some l.length) := by
          intro z hz
          rw [piece_word h0, ← List.cons_append, ← hsplit, List.append_assoc, List.takeWhile_append_of_pos (List.all_eq_true.1 hall)]
          have : (r' ++ z).takeWhile wordyB = [] := by
            cases r' with
            | nil => exact hz rfl
            | cons d u => rw [List.cons_append, List.takeWhile_cons_of_neg (by rw [hhead d u rfl]; decide)]
          rw [this, List.append_nil]
        have hzz : r' = [] → (x ++ b).takeWhile wordyB = [] ∧ (y ++ b).takeWhile wordyB = [] := by
          intro h
          subst h
          have h1 : p = 1 := hfe2.symm
          rcases hX with ⟨_, s, t, rfl, rfl⟩ | ⟨h, _⟩
          · exact ⟨by rw [List.cons_append, List.takeWhile_cons_of_neg (by decide)], by rw [List.cons_append, List.takeWhile_cons_of_neg (by decide)]⟩
          · omega
        have hlen : l.length ≤ (c :: r).length := by rw [← hsplit]; simp
        have hl1 : 1 ≤ l.length := List.length_pos_iff.2 hne
        have hr' : r'.length ≤ N := by
          have := congrArg List.length hsplit
          simp at this; omega
        refine sim_step hb hlen (hpc _ fun h => (hzz h).1) (hpc _ fun h => (hzz h).2) l1 l2 ?_
        rw [← hsplit, List.take_left, List.drop_left]
        intro M1 M2 m1 m2
        exact ih r' (n + 1) _ 1 (l.take 16) M1 M2 e1 e2 hr' (by omega) (by rw [fresh_word, ended_words 1 l hne (by omega)]) (fun d u h1 h2 => by rw [hhead d u h1] at h2; cases h2) hfe2 m1 m2
      rw [feedB_cons, step_code word c hp h0] at hfe
      have he1 := ended_le (w := word) hp
      generalize endedB part word = P' at hf hfe he1
      by_cases hq : c = 34 ∨ c = 39
      · obtain ⟨st, hst⟩ : ∃ st, (c = 34 ∧ st = 2) ∨ (c = 39 ∧ st = 3) := by
          rcases hq with h | h
          · exact ⟨2, .inl ⟨h, rfl⟩⟩
          · exact ⟨3, .inr ⟨h, rfl⟩⟩
        have hs : signB P' c = st := by rcases hst with ⟨rfl, rfl⟩ | ⟨rfl, rfl⟩ <;> rfl
        have hst' : st = 2 ∨ st = 3 := by omega
        rw [hs] at hfe
        rcases quote_feed c st hst r false [] with ⟨m, hm, he, hg⟩ | hg | hg | ⟨hg, he⟩
        · have hg : feedB (st, []) r = feedB (1, []) (r.drop m) := hg
          rw [hg] at hfe
          refine sim_step (m := m + 1) hb (by simp; omega) (by rw [piece_text hq, he]; rfl) (by rw [piece_text hq, he]; rfl) l1 l2 ?_
          rw [List.drop_succ_cons]
          intro M1 M2 m1 m2
          exact ih (r.drop m) (n + 1) _ 1 [] M1 M2 e1 e2 (by simp; omega) (by omega) (by rw [fresh_text]; rfl) (fun _ _ _ _ => rfl) hfe m1 m2
        · have hg : (feedB (st, []) r).1 = 15 := hg
          omega
        · have hg : (feedB (st, []) r).1 = st + 2 := hg
          omega
        · have hg : (feedB (st, []) r).1 = st := hg
          rcases hX with ⟨h, _⟩ | ⟨_, s, t, rfl, rfl⟩
          · omega
          · have hpc : ∀ s : List UInt8, pieceU f (c :: (r ++ (escR s ++ b))) = (2, (endsG c b false false).map (· + ((escR s).length + r.length + 1))) := by
              intro s
              have h1 : endsG c (escR s ++ b) false false = (endsG c b false false).map (· + (escR s).length) := flat_ends c hq b (charsR s)
              rw [piece_text hq, he, h1]
              cases endsG c b false false with
              | none => rfl
              | some k => simp; omega
            cases hE : endsG c b false false with
            | none =>
              rw [hE] at hpc
              obtain ⟨rfl, rfl⟩ := l1.fault_inv hb (by rw [hpc]; rfl)
              obtain ⟨rfl, rfl⟩ := l2.fault_inv hb (by rw [hpc]; rfl)
              exact ⟨rfl, .same _⟩
            | some k =>
              rw [hE] at hpc
              have hd : ∀ s : List UInt8, (c :: (r ++ (escR s ++ b))).drop (k + ((escR s).length + r.length + 1)) = b.drop k := by
                intro s
                rw [show c :: (r ++ (escR s ++ b)) = (c :: (r ++ escR s)) ++ b by simp, show k + ((escR s).length + r.length + 1) = (c :: (r ++ escR s)).length + k by simp; omega, ← List.drop_drop, List.drop_left]
              exact sim_here hb rfl (hpc s) (hpc t) l1 l2 (hd s) (hd t)
      have hqf : (c == 34 || c == 39) = false := by
        rcases Bool.eq_false_or_eq_true (c == 34 || c == 39) with h | h
        · simp at h; exact absurd h hq
        · exact h
      by_cases h47 : c = 47
      · subst h47
        have hs : signB P' 47 = 13 + P' := by
          have : P' = 0 ∨ P' = 1 := by omega
          rcases this with rfl | rfl <;> rfl
        rw [hs] at hfe
        have hP : P' = 0 ∨ P' = 1 := by omega
        cases r with
        | nil => have : 13 + P' = p := hfe; omega
        | cons d u =>
          by_cases hd1 : d = 47
          · subst hd1
            rw [feedB_cons, show stepB (13 + P', []) 47 = (6, []) by rcases hP with rfl | rfl <;> rfl] at hfe
            rcases line_feed u [] with ⟨r1, c', r3, rfl, g1, g2, g3⟩ | hg
            · rw [g3] at hfe
              have hln : ∀ z, lineN (r1 ++ c' :: r3 ++ z) = r1.length := by
                intro z
                unfold lineN
                rw [List.append_assoc, List.takeWhile_append_of_pos (List.all_eq_true.1 g2), List.cons_append, List.takeWhile_cons_of_neg (by rw [g1]; decide), List.append_nil]
              refine sim_step (m := r1.length + 2) hb (by simp) (by rw [List.cons_append, piece_line, hln]) (by rw [List.cons_append, piece_line, hln]) l1 l2 ?_
              have hdr : (47 :: 47 :: (r1 ++ c' :: r3)).drop (r1.length + 2) = c' :: r3 := by
                rw [List.drop_succ_cons, List.drop_succ_cons, List.drop_left]
              rw [hdr, fresh_rem]
              intro M1 M2 m1 m2
              have hb' := newl_blank g1
              exact ih r3 (n + 1) true 0 [] M1 M2 e1 e2 (by simp at hN; omega) (by omega) rfl (fun _ _ _ _ => rfl) hfe (m1.blank_inv hb') (m2.blank_inv hb')
            · omega
          by_cases hd2 : d = 42
          · subst hd2
            rw [feedB_cons, show stepB (13 + P', []) 42 = (7, []) by rcases hP with rfl | rfl <;> rfl] at hfe
            rcases block_feed u false [] with ⟨m, hm, he, hg⟩ | hg
            · have hg : feedB (7, []) u = feedB (0, []) (u.drop m) := hg
              rw [hg] at hfe
              refine sim_step (m := m + 2) hb (by simp; omega) (by rw [List.cons_append, piece_block, he]; rfl) (by rw [List.cons_append, piece_block, he]; rfl) l1 l2 ?_
              rw [List.drop_succ_cons, List.drop_succ_cons, fresh_rem]
              intro M1 M2 m1 m2
              exact ih (u.drop m) (n + 1) true 0 [] M1 M2 e1 e2 (by simp at hN ⊢; omega) (by omega) rfl (fun _ _ _ _ => rfl) hfe m1 m2
            · have hg : 7 ≤ (feedB (7, []) u).1 := hg
              omega
          rcases hP with rfl | rfl
          · have hf : f = true := hf
            subst hf
            have h9 : feedB (13 + 0, []) (d :: u) = feedB (9, []) (d :: u) := by
              rw [feedB_cons, feedB_cons]
              have h1 : stepB (13 + 0, []) d = (matchedB 9 d, []) := by
                show slashedB 13 d = _
                unfold slashedB
                rw [if_neg (by simpa using hd1), if_neg (by simpa using hd2)]; rfl
              rw [h1]; rfl
            rw [h9] at hfe
            rcases pat_feed (d :: u) false false [] with ⟨m, hm, he, hg⟩ | hg
            · have hg : feedB (9, []) (d :: u) = feedB (1, []) ((d :: u).drop m) := hg
              rw [hg] at hfe
              have he : ∀ z, endsG 47 (d :: (u ++ z)) false false = some m := he
              refine sim_step (m := m + 1) hb (by simp at hm ⊢; omega) (by rw [List.cons_append, piece_slash hd1 hd2, if_pos rfl, he]; rfl) (by rw [List.cons_append, piece_slash hd1 hd2, if_pos rfl, he]; rfl) l1 l2 ?_
              rw [List.drop_succ_cons, fresh_pat]
              intro M1 M2 m1 m2
              exact ih ((d :: u).drop m) (n + 1) false 1 [] M1 M2 e1 e2 (by simp at hN ⊢; omega) (by omega) rfl (fun _ _ _ _ => rfl) hfe m1 m2
            · have hg : 9 ≤ (feedB (9, []) (d :: u)).1 := hg
              omega
          · have hf : f = false := hf
            subst hf
            have h0 : feedB (13 + 1, []) (d :: u) = feedB (0, []) (d :: u) := by
              rw [feedB_cons, feedB_cons]
              have h1 : stepB (13 + 1, []) d = codeB 0 [] d := by
                show slashedB 14 d = _
                unfold slashedB
                rw [if_neg (by simpa using hd1), if_neg (by simpa using hd2)]; rfl
              rw [h1]; rfl
            rw [h0] at hfe
            refine sim_step (m := 1) hb (by simp) (by rw [List.cons_append, piece_slash hd1 hd2]; rfl) (by rw [List.cons_append, piece_slash hd1 hd2]; rfl) l1 l2 ?_
            intro M1 M2 m1 m2
            exact ih (d :: u) (n + 1) _ 0 [] M1 M2 e1 e2 (by simp at hN ⊢; omega) (by omega) (by rw [fresh_sign]; rfl) (fun _ _ _ _ => rfl) hfe m1 m2
      have h47f : (c == 47) = false := by simpa using h47
      by_cases h96 : c = 96
      · subst h96
        rw [show signB P' 96 = 15 from rfl, feedB_barred] at hfe
        omega
      have h96f : (c == 96) = false := by simpa using h96
      rw [sign_other hb hqf h47f h96f] at hfe
      refine sim_step (m := 1) hb (by simp) (piece_sign h0 hqf h47f h96f) (piece_sign h0 hqf h47f h96f) l1 l2 ?_
      intro M1 M2 m1 m2
      refine ih r (n + 1) _ _ [] M1 M2 e1 e2 hN ?_ ?_ (fun _ _ _ _ => rfl) hfe m1 m2
      · split <;> omega
      · rw [fresh_sign, show (c :: r).take 1 = [c] from rfl, contains_one, ended_nil]
        cases (c == 41 || (c == 93 || c == 125)) <;> rfl
end Go.Proofs.YtdnmgpidfjkiaaaDoor
