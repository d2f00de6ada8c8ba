/-
  PLAIN LAWS: what the lexer cuts is what is cut from suffix to suffix; two texts in one hole.
-/
import Derived.Test.YtdnmgpidfjkiaaaDoorHoleLaw
import Derived.Test.YtdnmgpidfjkiaaaDoorM1
namespace Go.Proofs.YtdnmgpidfjkiaaaDoor
set_option linter.unusedVariables false

theorem nlc (c : UInt8) : ([10, 13] : List UInt8).contains c = newlB c := by
  have := allBytes (fun c => ([10, 13] : List UInt8).contains c == newlB c) (by decide +kernel) c
  simpa using this
theorem line_any_eq : ∀ l : List UInt8, ((lineN l : Nat) : Int) = if Lib.indexAny l [10, 13] < 0 then (l.length : Int) else Lib.indexAny l [10, 13] := by
  intro l
  induction l with
  | nil => rfl
  | cons c l ih =>
    have hge := Lib.indexAny_ge [10, 13] l
    have hs : Lib.indexAny (c :: l) [10, 13] = if ([10, 13] : List UInt8).contains c then 0 else if Lib.indexAny l [10, 13] == -1 then -1 else Lib.indexAny l [10, 13] + 1 := by rw [Lib.indexAny]
    rw [hs, nlc]
    rcases Bool.eq_false_or_eq_true (newlB c) with g | g
    · rw [g]
      unfold lineN
      rw [List.takeWhile_cons_of_neg (by simp [g])]
      rfl
    · rw [g]
      have hl : lineN (c :: l) = lineN l + 1 := by
        unfold lineN
        rw [List.takeWhile_cons_of_pos (by simp [g])]; rfl
      rw [hl]
      simp only [Bool.false_eq_true, if_false]
      by_cases h : Lib.indexAny l [10, 13] = -1
      · rw [h] at ih ⊢
        simp at ih ⊢
        omega
      · have h1 : (Lib.indexAny l [10, 13] == -1) = false := by simpa using h
        rw [if_neg (by omega)] at ih
        rw [h1]
        simp only [Bool.false_eq_true, if_false]
        rw [if_neg (by omega)]
        omega
theorem idx_cons (c : UInt8) (l sub : List UInt8) : Lib.index (c :: l) sub = if sub.isPrefixOf (c :: l) then 0 else if Lib.index l sub == -1 then -1 else Lib.index l sub + 1 := by rw [Lib.index]
theorem blk_idx : ∀ u : List UInt8,
    (match blkN false u with | some m => Lib.index u [42, 47] = (m : Int) - 2 ∧ 2 ≤ m | none => Lib.index u [42, 47] = -1) ∧
    (match blkN true u with | some m => Lib.index (42 :: u) [42, 47] = (m : Int) - 1 ∧ 1 ≤ m | none => Lib.index (42 :: u) [42, 47] = -1) := by
  intro u
  induction u with
  | nil => exact ⟨rfl, rfl⟩
  | cons c r ih =>
    obtain ⟨i1, i2⟩ := ih
    have hf : blkN false (c :: r) = (blkN (c == 42) r).map (· + 1) := by rw [blkN]; rfl
    have h1 : (match blkN false (c :: r) with | some m => Lib.index (c :: r) [42, 47] = (m : Int) - 2 ∧ 2 ≤ m | none => Lib.index (c :: r) [42, 47] = -1) := by
      rw [hf]
      by_cases hc : c = 42
      · subst hc
        rw [show ((42 : UInt8) == 42) = true from rfl]
        cases hb : blkN true r with
        | none => rw [hb] at i2; exact i2
        | some m =>
          rw [hb] at i2
          obtain ⟨i2, i3⟩ := i2
          show Lib.index (42 :: r) [42, 47] = ((m + 1 : Nat) : Int) - 2 ∧ 2 ≤ m + 1
          exact ⟨by rw [i2]; omega, by omega⟩
      · have hc' : (c == 42) = false := by simpa using hc
        rw [hc']
        have hp : ([42, 47] : List UInt8).isPrefixOf (c :: r) = false := by
          have : ((42 : UInt8) == c) = false := by rw [beq_eq_false_iff_ne]; exact fun e => hc e.symm
          simp [List.isPrefixOf, this]
        cases hb : blkN false r with
        | none =>
          rw [hb] at i1
          have i1 : Lib.index r [42, 47] = -1 := i1
          show Lib.index (c :: r) [42, 47] = -1
          rw [idx_cons, hp, i1]; rfl
        | some m =>
          rw [hb] at i1
          obtain ⟨i1, i3⟩ := i1
          show Lib.index (c :: r) [42, 47] = ((m + 1 : Nat) : Int) - 2 ∧ 2 ≤ m + 1
          refine ⟨?_, by omega⟩
          rw [idx_cons, hp, i1]
          have : ((m : Int) - 2 == -1) = false := by rw [beq_eq_false_iff_ne]; omega
          rw [this]
          simp; omega
    refine ⟨h1, ?_⟩
    by_cases hc : c = 47
    · subst hc
      have : blkN true (47 :: r) = some 1 := by rw [blkN]; rfl
      rw [this]
      refine ⟨?_, by omega⟩
      rw [idx_cons, show ([42, 47] : List UInt8).isPrefixOf (42 :: 47 :: r) = true by simp [List.isPrefixOf]]; rfl
    · have hc' : (c == 47) = false := by simpa using hc
      have : blkN true (c :: r) = blkN false (c :: r) := by rw [blkN, hf, hc']; rfl
      rw [this]
      have hp : ([42, 47] : List UInt8).isPrefixOf (42 :: c :: r) = false := by
        have : ((47 : UInt8) == c) = false := by rw [beq_eq_false_iff_ne]; exact fun e => hc e.symm
        simp [List.isPrefixOf, this]
      cases hb : blkN false (c :: r) with
      | none =>
        rw [hb] at h1
        have h1 : Lib.index (c :: r) [42, 47] = -1 := h1
        show Lib.index (42 :: c :: r) [42, 47] = -1
        rw [idx_cons, hp, h1]; rfl
      | some m =>
        rw [hb] at h1
        obtain ⟨h1, h3⟩ := h1
        refine ⟨?_, by omega⟩
        rw [idx_cons, hp, h1]
        have : ((m : Int) - 2 == -1) = false := by rw [beq_eq_false_iff_ne]; omega
        rw [this]
        simp; omega
theorem outI_some (a n : Nat) : outI a (some n) = ((a + n : Nat) : Int) := rfl
theorem one_piece {s : List UInt8} {P : List Pc} {a : Nat} {c : UInt8} {k zz : Int} (hc : s[a]? = some c) (ho : oneR s P a c k zz) :
    (pieceU (freshPc P) (s.drop a)).1 = k ∧ zz = outI a (pieceU (freshPc P) (s.drop a)).2 := by
  have hlt := some_lt hc
  have hd : s.drop a = c :: s.drop (a + 1) := by
    rw [List.drop_eq_getElem_cons hlt]
    rw [List.getElem?_eq_getElem hlt] at hc
    injection hc with hc; rw [hc]
  have he : ∀ q, endsI q s a = outI a ((endsG q (s.drop (a + 1)) false false).map (· + 1)) := fun q => by rw [outI_map]; rfl
  unfold oneR at ho
  have hw : wordE s a = a + ((c :: s.drop (a + 1)).takeWhile wordyB).length := by unfold wordE; rw [hd]
  rw [hd] at ho ⊢
  rw [pieceU_cons]
  split at ho
  · rename_i g
    rw [if_pos g]
    obtain ⟨rfl, rfl⟩ := ho
    exact ⟨rfl, by rw [hw]; rfl⟩
  rename_i g; rw [if_neg g]
  split at ho
  · rename_i g
    rw [if_pos g]
    obtain ⟨rfl, rfl⟩ := ho
    exact ⟨rfl, he c⟩
  rename_i g; rw [if_neg g]
  split at ho
  · rename_i g47
    rw [if_pos g47]
    split at ho
    · rename_i gp
      obtain ⟨rfl, rfl⟩ := ho
      rcases Bool.eq_false_or_eq_true (Lib.hasPrefix (c :: s.drop (a + 1)) [47, 47]) with g1 | g1
      · rw [if_pos g1]
        refine ⟨rfl, ?_⟩
        unfold remI
        rw [hd, if_pos g1, outI_some]
        unfold lineI
        have := line_any_eq (s.drop a)
        have hl : (s.drop a).length = s.length - a := by simp
        rw [← hd]
        split at this
        · rename_i h; rw [if_pos h]; omega
        · rename_i h; rw [if_neg h]; omega
      · rw [if_neg (by rw [g1]; decide)]
        rw [g1, Bool.false_or] at gp
        rw [if_pos gp]
        refine ⟨rfl, ?_⟩
        unfold remI
        rw [hd, if_neg (by rw [g1]; decide)]
        unfold moreI
        have h2 : (s.drop (a + 1)).drop 1 = s.drop (a + 2) := by rw [List.drop_drop]
        rw [h2]
        have hb := (blk_idx (s.drop (a + 2))).1
        cases hB : blkN false (s.drop (a + 2)) with
        | none =>
          rw [hB] at hb
          have hb : Lib.index (s.drop (a + 2)) [42, 47] = -1 := hb
          rw [hb]; rfl
        | some m =>
          rw [hB] at hb
          obtain ⟨hb, hm⟩ := hb
          rw [hb, if_neg (by omega)]
          show _ = ((a + (m + 2) : Nat) : Int)
          omega
    · rename_i gp
      have gp : (Lib.hasPrefix (c :: s.drop (a + 1)) [47, 47] || Lib.hasPrefix (c :: s.drop (a + 1)) [47, 42]) = false := by simpa using gp
      rw [Bool.or_eq_false_iff] at gp
      rw [if_neg (by rw [gp.1]; decide), if_neg (by rw [gp.2]; decide)]
      split at ho
      · rename_i gf
        rw [if_pos gf]
        obtain ⟨rfl, rfl⟩ := ho
        exact ⟨rfl, he 47⟩
      · rename_i gf
        rw [if_neg gf]
        obtain ⟨rfl, rfl⟩ := ho
        exact ⟨rfl, rfl⟩
  rename_i g; rw [if_neg g]
  split at ho
  · rename_i g
    rw [if_pos g]
    obtain ⟨rfl, rfl⟩ := ho
    exact ⟨rfl, rfl⟩
  · rename_i g
    rw [if_neg g]
    obtain ⟨rfl, rfl⟩ := ho
    exact ⟨rfl, rfl⟩
def kt (p : Pc) : Int × List UInt8 := (p.k, p.t)
theorem fresh_snoc (P : List Pc) (p : Pc) : freshPc (P ++ [p]) = freshK p.k p.t := by
  unfold freshPc freshK
  rw [List.getLast?_concat]
theorem came_lx {s : List UInt8} {a : Nat} {R : List Pc} (h : Came s a R) : ∀ L e, Lx R.length (freshPc R) (s.drop a) L e → Lx 0 true s (R.map kt ++ L) e := by
  refine h (fun a R => ∀ L e, Lx R.length (freshPc R) (s.drop a) L e → Lx 0 true s (R.map kt ++ L) e) ?_ ?_ ?_
  · intro L e h; exact h
  · intro a P c ih hc hb L e hl
    refine ih L e ?_
    have hlt := some_lt hc
    have hd : s.drop a = c :: s.drop (a + 1) := by
      rw [List.drop_eq_getElem_cons hlt]
      rw [List.getElem?_eq_getElem hlt] at hc
      injection hc with hc; rw [hc]
    rw [hd]
    exact .blank _ _ _ _ _ _ hb hl
  · intro a P c k zz ih hc hb ho hn L e hl
    have hlt := some_lt hc
    have hd : s.drop a = c :: s.drop (a + 1) := by
      rw [List.drop_eq_getElem_cons hlt]
      rw [List.getElem?_eq_getElem hlt] at hc
      injection hc with hc; rw [hc]
    obtain ⟨h1, h2⟩ := one_piece hc ho
    rw [List.map_append, List.append_assoc]
    refine ih _ e ?_
    cases hm : (pieceU (freshPc P) (s.drop a)).2 with
    | none => rw [hm] at h2; have h2 : (zz : Int) = -1 := h2; omega
    | some m =>
      rw [hm] at h2
      have h2 : (zz : Int) = ((a + m : Nat) : Int) := h2
      obtain rfl : zz = a + m := by omega
      have ht : (s.take (a + m)).drop a = (s.drop a).take m := by rw [List.drop_take, Nat.add_sub_cancel_left]
      have hp : pieceU (freshPc P) (s.drop a) = (k, some m) := by rw [← h1, ← hm]
      rw [fresh_snoc, List.length_append, ← List.drop_drop] at hl
      simp only [ht] at hl ⊢
      show Lx P.length (freshPc P) (s.drop a) ((k, (s.drop a).take m) :: L) e
      rw [hd] at hp hl ⊢
      exact .one _ _ _ _ _ _ _ _ hb hp hn hl
theorem told_lx {s : List UInt8} {P : List Pc} {n e : Int} (ht : Told s P n e) (hl : s.length ≤ 65536) : ∃ L, Lx 0 true s L e ∧ (e = 0 → L = P.map kt) := by
  rcases ht with ⟨h, _⟩ | ⟨_, hc, _, rfl⟩ | ⟨_, rfl, a, c, R, k, zz, hc, hx, hb, ho, _, he⟩
  · omega
  · have := came_lx hc [] 0 (by rw [List.drop_length]; exact .nil _ _)
    exact ⟨_, this, fun _ => by simp⟩
  · have hlt := some_lt hx
    have hd : s.drop a = c :: s.drop (a + 1) := by
      rw [List.drop_eq_getElem_cons hlt]
      rw [List.getElem?_eq_getElem hlt] at hx
      injection hx with hx; rw [hx]
    obtain ⟨h1, h2⟩ := one_piece hx ho
    cases hm : (pieceU (freshPc R) (s.drop a)).2 with
    | none =>
      rw [hm] at h2
      have h2 : zz = -1 := h2
      rcases he with ⟨_, rfl⟩ | ⟨h3, _⟩
      · have := came_lx hc [] 33 (by rw [hd] at hm ⊢; exact .fault _ _ _ _ hb hm)
        exact ⟨_, this, fun h => by omega⟩
      · omega
    | some m =>
      rw [hm] at h2
      have h2 : zz = ((a + m : Nat) : Int) := h2
      rcases he with ⟨h3, _⟩ | ⟨_, h3, rfl⟩
      · omega
      · have := came_lx hc [] 3 (by rw [hd] at hm ⊢; exact .many _ _ _ _ m hb hm h3)
        exact ⟨_, this, fun h => by omega⟩
theorem told_hole {a x y b w : List UInt8} {p : Nat} {P Q : List Pc} {n m e f : Int} (hf : feedB (0, []) a = (p, w)) (hX : HoleX p x y) (h1 : Told (a ++ (x ++ b)) P n e) (h2 : Told (a ++ (y ++ b)) Q m f) :
    (e = 5 ∨ f = 5) ∨ (e = f ∧ (e = 0 → OneOff (P.map kt) (Q.map kt))) := by
  rcases Nat.lt_or_ge 65536 (a ++ (x ++ b)).length with g1 | g1
  · rcases h1 with ⟨_, _, _, h⟩ | ⟨h, _⟩ | ⟨h, _⟩
    · exact .inl (.inl h)
    · omega
    · omega
  rcases Nat.lt_or_ge 65536 (a ++ (y ++ b)).length with g2 | g2
  · rcases h2 with ⟨_, _, _, h⟩ | ⟨h, _⟩ | ⟨h, _⟩
    · exact .inl (.inr h)
    · omega
    · omega
  obtain ⟨L1, l1, k1⟩ := told_lx h1 g1
  obtain ⟨L2, l2, k2⟩ := told_lx h2 g2
  obtain ⟨he, ho⟩ := sim x y b p hX a.length a 0 true 0 [] L1 L2 e f (Nat.le_refl _) (by omega) rfl (fun _ _ _ _ => rfl) (by rw [hf]) l1 l2
  subst he
  exact .inr ⟨rfl, fun h => by rw [← k1 h, ← k2 h]; exact ho⟩
/-- How far two lists of pieces differ, place by place. -/
theorem oneOff_count {L1 L2 : List (Int × List UInt8)} (h : OneOff L1 L2) : L1.length = L2.length ∧ ∃ cnt : Nat → Nat, cnt 0 = 0 ∧ (∀ i p q, L1[i]? = some p → L2[i]? = some q → p.1 = q.1 ∧ cnt (i + 1) = cnt i + (if p.2 == q.2 then 0 else 1)) ∧ ∀ i, cnt i ≤ 1 := by
  induction h with
  | same L =>
    refine ⟨rfl, fun _ => 0, rfl, fun i p q h1 h2 => ?_, fun _ => Nat.zero_le _⟩
    rw [h1] at h2
    injection h2 with h2
    subst h2
    simp
  | here k t t' L =>
    refine ⟨rfl, fun i => if i = 0 then 0 else if t == t' then 0 else 1, rfl, fun i p q h1 h2 => ?_, fun i => by show (if i = 0 then 0 else if t == t' then 0 else 1) ≤ 1; (repeat' split) <;> omega⟩
    cases i with
    | zero =>
      simp at h1 h2
      subst h1; subst h2
      simp
    | succ i =>
      simp at h1 h2
      rw [h1] at h2
      injection h2 with h2
      subst h2
      simp
  | cons p L L' _ ih =>
    obtain ⟨hl, cnt, c0, c1, c2⟩ := ih
    refine ⟨by simp [hl], fun i => if i = 0 then 0 else cnt (i - 1), rfl, fun i x y h1 h2 => ?_, fun i => by show (if i = 0 then 0 else cnt (i - 1)) ≤ 1; split <;> first | exact c2 _ | omega⟩
    cases i with
    | zero =>
      simp at h1 h2
      subst h1; subst h2
      simp [c0]
    | succ i =>
      simp at h1 h2
      have := c1 i x y h1 h2
      simpa using this
end Go.Proofs.YtdnmgpidfjkiaaaDoor
