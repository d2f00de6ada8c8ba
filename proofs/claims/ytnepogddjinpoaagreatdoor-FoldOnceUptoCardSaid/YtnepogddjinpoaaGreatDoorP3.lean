/-
  PLAIN LAWS of many texts, in one.
-/
import Derived.Test.YtnepogddjinpoaaGreatDoorP16
import Derived.Test.YtnepogddjinpoaaGreatDoorC2
import Derived.Test.YtnepogddjinpoaaGreatDoorOwnNode
import Derived.Deep.MidRow
namespace Go.Proofs.YtnepogddjinpoaaGreatDoor
open Go.RowKit
set_option linter.unusedVariables false
set_option linter.unusedSimpArgs false

/-- A node as one of a greater depth. -/
def liftN : (n : Nat) → NT n → NT (n + 1)
  | 0, x => x.elim
  | n + 1, x => (⟨NN.k x, NN.s x, NN.nm x, NN.pipe x, (NN.body x).map (liftN n), (NN.els x).map (liftN n), NN.pos x, NN.esc x, NN.unit x⟩ : NN (NT (n + 1)))
def kindN : (n : Nat) → NT n → Int
  | 0, x => x.elim
  | n + 1, x => NN.k x
theorem lift_kind : ∀ (n : Nat) (x : NT n), kindN (n + 1) (liftN n x) = kindN n x := by
  intro n x
  cases n with
  | zero => exact x.elim
  | succ n => rfl
/-- The environment that a constant pipeline is told in. -/
def envO : EnvD 0 := ⟨nullD, nullD, []⟩
/-- A constant pipeline's value, where there is one. -/
def valueP (l : List CallD) : Option (VD 0) := if constP l then (pipeR envO l).1 else none
/-- May a filter tell a value? -/
def applyOk (esc : Int) (d : VD 0) : Bool := decide (1 ≤ esc) && decide (esc ≤ 12) && decide (checkV 1 0 d = 0)
section
variable {α : Type}
def textN (s : List UInt8) (pos : Int) : NN α := ⟨1, s, [], [], [], [], pos, 0, 0⟩
/-- May it be told as a text? -/
def tellsN (x : NN α) : Bool := decide (x.k = 2) && match valueP x.pipe with | some d => applyOk x.esc d | none => false
def pickL (kd : α → Int) (l : List α) : Option (List α) := if l.any (fun y => decide (kd y = 7)) then none else some l
/-- What stands in its place, where that may be (kd: the kinds of what is in it). -/
def pickP (kd : α → Int) (x : NN α) : Option (List α) :=
  if x.k = 3 then (match valueP x.pipe with
    | some d => pickL kd (if isTrue d then x.body else x.els)
    | none => none) else none
theorem pickL_is {kd : α → Int} {l o : List α} (h : pickL kd l = some o) : o = l := by
  unfold pickL at h
  split at h
  · cases h
  · injection h with h
    exact h.symm
theorem pick_cases {kd : α → Int} {x : NN α} {l : List α} (h : pickP kd x = some l) : l = x.body ∨ l = x.els := by
  unfold pickP at h
  split at h
  · cases hv : valueP x.pipe with
    | none => rw [hv] at h; cases h
    | some d =>
      rw [hv] at h
      have h2 := pickL_is h
      subst h2
      cases isTrue d with
      | true => exact .inl rfl
      | false => exact .inr rfl
  · cases h
end
/-- What one node becomes, its lists folded already. -/
inductive NodeF (B n : Nat) (x : NN (NT n)) : List (NN (NT n)) → Prop
  | told (s : List UInt8) : tellsN x = true → s.length ≤ B → NodeF B n x (if s = [] then [] else [textN s x.pos])
  | picked (l : List (NT n)) (o : List (NN (NT n))) : tellsN x = false → pickP (kindN n) x = some l → o = l.map (liftN n) → NodeF B n x o
  | kept : tellsN x = false → pickP (kindN n) x = none → NodeF B n x [x]
/-- One behind the other. -/
def Rows2 {α β : Type} (R : α → List β → Prop) : List α → List β → Prop
  | [], out => out = []
  | x :: r, out => ∃ o o', R x o ∧ Rows2 R r o' ∧ out = o ++ o'
theorem Rows2.snoc {α β : Type} {R : α → List β → Prop} : ∀ {l : List α} {out : List β} {x : α} {o : List β}, Rows2 R l out → R x o → Rows2 R (l ++ [x]) (out ++ o) := by
  intro l
  induction l with
  | nil =>
    intro out x o h hx
    have h : out = [] := h
    subst h
    exact ⟨o, [], hx, rfl, by simp⟩
  | cons y l ih =>
    intro out x o h hx
    obtain ⟨o1, o2, h1, h2, rfl⟩ := h
    exact ⟨o1, o2 ++ o, h1, ih h2 hx, by simp⟩
def FoldsTo (B : Nat) : (n : Nat) → List (NT n) → List (NT n) → Prop
  | 0, l, out => out = l
  | n + 1, l, out => ∃ mid : List (NN (NT n)), Rows2 (fun (x : NN (NT n)) o => ∃ b e, FoldsTo B n x.body b ∧ FoldsTo B n x.els e ∧ NodeF B n { x with body := b, els := e } o) l mid ∧ out = besideL mid
/-- Nothing in it folds, no texts beside each other. -/
def noAdjN : (n : Nat) → List (NT n) → Bool
  | 0, _ => true
  | n + 1, l => noAdj (α := NT n) l
def StableN : (n : Nat) → NT n → Prop
  | 0, _ => True
  | n + 1, x => ((∀ y ∈ NN.body x, StableN n y) ∧ noAdjN n (NN.body x) = true) ∧ ((∀ y ∈ NN.els x, StableN n y) ∧ noAdjN n (NN.els x) = true) ∧ tellsN (α := NT n) x = false ∧ pickP (kindN n) x = none
def StableL (n : Nat) (l : List (NT n)) : Prop := (∀ y ∈ l, StableN n y) ∧ noAdjN n l = true
theorem step_mem {α : Type} {P : NN α → Prop} (hP : ∀ x y : NN α, P y → P { y with s := y.s ++ x.s }) {out : List (NN α)} {x : NN α} (h : ∀ y ∈ out, P y) (hx : P x) : ∀ y ∈ besideStep out x, P y := by
  unfold besideStep
  cases hl : out.getLast? with
  | none =>
    intro y hy
    have hy : y ∈ [x] := hy
    rw [List.mem_singleton.1 hy]; exact hx
  | some z =>
    have hs := last_split hl
    have hz : z ∈ out := by rw [hs]; simp
    simp only
    split
    · intro y hy
      rcases List.mem_append.1 hy with h1 | h1
      · exact h y (by rw [hs]; exact List.mem_append_left _ h1)
      · rw [List.mem_singleton.1 h1]; exact hP _ _ (h z hz)
    · intro y hy
      rcases List.mem_append.1 hy with h1 | h1
      · exact h y h1
      · rw [List.mem_singleton.1 h1]; exact hx
theorem beside_mem {α : Type} {P : NN α → Prop} (hP : ∀ x y : NN α, P y → P { y with s := y.s ++ x.s }) (l : List (NN α)) (h : ∀ y ∈ l, P y) : ∀ y ∈ besideL l, P y := by
  have key : ∀ (l out : List (NN α)), (∀ y ∈ out, P y) → (∀ y ∈ l, P y) → ∀ y ∈ l.foldl besideStep out, P y := by
    intro l
    induction l with
    | nil => intro out ho _; exact ho
    | cons x l ih =>
      intro out ho hl
      rw [List.foldl_cons]
      exact ih _ (step_mem hP ho (hl x (by simp))) (fun y hy => hl y (by simp [hy]))
  exact key l [] (fun y hy => by cases hy) h
theorem rows_mem {α β : Type} {R : α → List β → Prop} {P : β → Prop} : ∀ {l : List α} {out : List β}, (∀ x ∈ l, ∀ o, R x o → ∀ y ∈ o, P y) → Rows2 R l out → ∀ y ∈ out, P y := by
  intro l
  induction l with
  | nil =>
    intro out _ h
    have h : out = [] := h
    subst h
    intro y hy; cases hy
  | cons x l ih =>
    intro out hP h
    obtain ⟨o, o', h1, h2, rfl⟩ := h
    intro y hy
    rcases List.mem_append.1 hy with h3 | h3
    · exact hP x (by simp) o h1 y h3
    · exact ih (fun z hz => hP z (by simp [hz])) h2 y h3
theorem rows_same {α : Type} {R : α → List α → Prop} : ∀ {l out : List α}, (∀ x ∈ l, ∀ o, R x o → o = [x]) → Rows2 R l out → out = l := by
  intro l
  induction l with
  | nil => intro out _ h; exact h
  | cons x l ih =>
    intro out hP h
    obtain ⟨o, o', h1, h2, rfl⟩ := h
    rw [hP x (by simp) o h1, ih (fun z hz => hP z (by simp [hz])) h2]
    rfl
/-- What is stable stays. -/
theorem folds_stay (B : Nat) : ∀ (n : Nat) (l out : List (NT n)), StableL n l → FoldsTo B n l out → out = l := by
  intro n
  induction n with
  | zero => intro l out _ h; exact h
  | succ n ih =>
    intro l out hs h
    obtain ⟨mid, h1, rfl⟩ := h
    have h2 : mid = l := rows_same (α := NN (NT n)) (fun x hx o ho => by
      obtain ⟨b, e, hb, he, hn⟩ := ho
      obtain ⟨sb, se, ht, hp⟩ := hs.1 x hx
      have eb := ih _ _ sb hb
      have ee := ih _ _ se he
      subst eb; subst ee
      cases hn with
      | told s h3 _ => exact absurd (h3.symm.trans ht) (by decide)
      | picked l' o' _ h3 _ => exact absurd (h3.symm.trans hp) (by simp)
      | kept _ _ => rfl) h1
    rw [h2]
    exact beside_id hs.2
theorem noAdj_lift (n : Nat) : ∀ l : List (NT n), noAdjN (n + 1) (l.map (liftN n)) = noAdjN n l := by
  cases n with
  | zero => intro l; cases l with | nil => rfl | cons x _ => exact x.elim
  | succ n =>
    intro l
    show noAdj (α := NT (n + 1)) (l.map (liftN (n + 1))) = noAdj (α := NT n) l
    induction l with
    | nil => rfl
    | cons x l ih =>
      cases l with
      | nil => rfl
      | cons y l =>
        have ih' : noAdj (α := NT (n + 1)) (liftN (n + 1) y :: l.map (liftN (n + 1))) = noAdj (α := NT n) (y :: l) := ih
        show (!(decide (NN.k x = 1) && decide (NN.k y = 1)) && noAdj (α := NT (n + 1)) (liftN (n + 1) y :: l.map (liftN (n + 1)))) = (!(decide (NN.k x = 1) && decide (NN.k y = 1)) && noAdj (α := NT n) (y :: l))
        rw [ih']
theorem any_lift (n : Nat) (l : List (NT n)) : ((l.map (liftN n)).any fun y => decide (kindN (n + 1) y = 7)) = l.any fun y => decide (kindN n y = 7) := by
  rw [List.any_map]
  congr 1
  funext y
  show decide (kindN (n + 1) (liftN n y) = 7) = decide (kindN n y = 7)
  rw [lift_kind]
theorem lift_stable : ∀ (n : Nat) (x : NT n), StableN n x → StableN (n + 1) (liftN n x) := by
  intro n
  induction n with
  | zero => intro x _; exact x.elim
  | succ n ih =>
    intro x hs
    obtain ⟨⟨b1, b2⟩, ⟨e1, e2⟩, ht, hp⟩ := hs
    refine ⟨⟨fun y hy => ?_, ?_⟩, ⟨fun y hy => ?_, ?_⟩, ht, ?_⟩
    · have hy : y ∈ (NN.body x).map (liftN n) := hy
      obtain ⟨z, hz, rfl⟩ := List.mem_map.1 hy
      exact ih z (b1 z hz)
    · exact (noAdj_lift n (NN.body x)).trans b2
    · have hy : y ∈ (NN.els x).map (liftN n) := hy
      obtain ⟨z, hz, rfl⟩ := List.mem_map.1 hy
      exact ih z (e1 z hz)
    · exact (noAdj_lift n (NN.els x)).trans e2
    · have hp' : pickP (α := NT n) (kindN n) x = none := hp
      show pickP (α := NT (n + 1)) (kindN (n + 1)) (liftN (n + 1) x) = none
      have hl : ∀ l : List (NT n), pickL (kindN n) l = none → pickL (kindN (n + 1)) (l.map (liftN n)) = none := by
        intro l h
        unfold pickL at h ⊢
        rw [any_lift]
        split at h
        · rename_i h4
          rw [if_pos h4]
        · cases h
      unfold pickP at hp' ⊢
      show (if NN.k x = 3 then (match valueP (NN.pipe x) with
        | some d => pickL (kindN (n + 1)) (if isTrue d then (NN.body x).map (liftN n) else (NN.els x).map (liftN n))
        | none => none) else none) = none
      by_cases h3 : NN.k x = 3
      · rw [if_pos h3] at hp' ⊢
        cases hv : valueP (NN.pipe x) with
        | none => rfl
        | some d =>
          have hv' : valueP (x : NN (NT n)).pipe = some d := hv
          rw [hv'] at hp'
          have hp'' : pickL (kindN n) (if isTrue d then NN.body x else NN.els x) = none := hp'
          show pickL (kindN (n + 1)) (if isTrue d then (NN.body x).map (liftN n) else (NN.els x).map (liftN n)) = none
          cases hd : isTrue d with
          | true => rw [hd] at hp''; exact hl _ hp''
          | false => rw [hd] at hp''; exact hl _ hp''
      · rw [if_neg h3]
/-- What is folded is stable. -/
theorem folds_stable (B : Nat) : ∀ (n : Nat) (l out : List (NT n)), FoldsTo B n l out → StableL n out := by
  intro n
  induction n with
  | zero => intro l out _; exact ⟨fun y _ => trivial, rfl⟩
  | succ n ih =>
    intro l out h
    obtain ⟨mid, h1, rfl⟩ := h
    refine ⟨?_, beside_adj mid⟩
    refine beside_mem (α := NT n) (P := StableN (n + 1)) (fun x y hy => hy) mid ?_
    refine rows_mem (P := StableN (n + 1)) (fun x hx o ho => ?_) h1
    obtain ⟨b, e, hb, he, hn⟩ := ho
    have sb := ih _ _ hb
    have se := ih _ _ he
    intro y hy
    cases hn with
    | told s h3 _ =>
      split at hy
      · cases hy
      · rw [List.mem_singleton.1 hy]
        refine ⟨⟨fun z hz => (by cases hz), by cases n <;> rfl⟩, ⟨fun z hz => (by cases hz), by cases n <;> rfl⟩, rfl, rfl⟩
    | picked l' o' _ h3 h4 =>
      subst h4
      obtain ⟨z, hz, rfl⟩ := List.mem_map.1 hy
      refine lift_stable n z ?_
      rcases pick_cases h3 with rfl | rfl
      · exact sb.1 z hz
      · exact se.1 z hz
    | kept h3 h4 =>
      rw [List.mem_singleton.1 hy]
      exact ⟨sb, se, h3, h4⟩
/-- Folded again it stays. -/
theorem folds_twice (B B' n : Nat) (l x y : List (NT n)) (h : FoldsTo B n l x) (h2 : FoldsTo B' n x y) : y = x := folds_stay B' n x y (folds_stable B n l x h) h2
end Go.Proofs.YtnepogddjinpoaaGreatDoor

namespace Go.Proofs.YtnepogddjinpoaaGreatDoor
open Go.RowKit
set_option linter.unusedVariables false
set_option linter.unusedSimpArgs false

def argMayP (a : ArgD) : Bool :=
  a.path.all isName && decide (a.path.length ≤ 16) && decide (1 ≤ a.k) && decide (a.k ≤ 7) && ((decide (a.k = 2) && (a.nm.isEmpty || isName a.nm)) || a.nm.isEmpty) && (decide (a.k ≤ 2) || a.path.isEmpty) && (decide (a.k = 3) || decide (a.i = 0)) && (decide (a.k = 4) || a.s.isEmpty) && decide (a.s.length ≤ 4096)
def callMayP (c : CallD) (ahead : Bool) : Bool :=
  c.args.all argMayP && (if c.nm = [] then !ahead && decide (c.args.length = 1) else
    (arityB ⟨c.nm.toArray⟩).2.2 && decide ((arityB ⟨c.nm.toArray⟩).1 ≤ ((c.args.length + if ahead then 1 else 0 : Nat) : Int)) && decide (((c.args.length + if ahead then 1 else 0 : Nat) : Int) ≤ (arityB ⟨c.nm.toArray⟩).2.1))
def pipeOk : List CallD → Bool
  | [] => false
  | c :: r => decide (r.length < 16) && callMayP c false && r.all fun c => callMayP c true
/-- A node's own kind, filter, unit, pipeline. -/
def headMay {α : Type} (units : Int) (x : NN α) : Bool :=
  decide (1 ≤ x.k) && decide (x.k ≤ 7) && (!decide (x.k = 2) || (decide (1 ≤ x.esc) && decide (x.esc ≤ 12))) && (!decide (x.k = 6) || (decide (0 ≤ x.unit) && decide (x.unit < units))) && (decide (x.k = 1) || (decide (x.k = 6) && x.pipe.isEmpty) || pipeOk x.pipe)
def mayN (units : Int) : (n : Nat) → NT n → Bool
  | 0, _ => true
  | n + 1, x => headMay (α := NT n) units x && (NN.body x).all (mayN units n) && (NN.els x).all (mayN units n)
def maxBy {α : Type} (f : α → Nat) : List α → Nat
  | [] => 0
  | x :: r => max (f x) (maxBy f r)
theorem maxBy_le {α : Type} {f : α → Nat} {m : Nat} : ∀ {l : List α}, (∀ x ∈ l, f x ≤ m) → maxBy f l ≤ m := by
  intro l
  induction l with
  | nil => intro _; exact Nat.zero_le _
  | cons x l ih =>
    intro h
    have h1 := h x (by simp)
    have h2 := ih (fun y hy => h y (by simp [hy]))
    show max (f x) (maxBy f l) ≤ m
    omega
theorem le_maxBy {α : Type} {f : α → Nat} : ∀ {l : List α} {x : α}, x ∈ l → f x ≤ maxBy f l := by
  intro l
  induction l with
  | nil => intro x h; cases h
  | cons y l ih =>
    intro x h
    show f x ≤ max (f y) (maxBy f l)
    rcases List.mem_cons.1 h with h | h
    · rw [h]; omega
    · have := ih h; omega
theorem maxBy_append {α : Type} {f : α → Nat} : ∀ (l r : List α), maxBy f (l ++ r) = max (maxBy f l) (maxBy f r) := by
  intro l
  induction l with
  | nil => intro r; simp [maxBy]
  | cons x l ih =>
    intro r
    show max (f x) (maxBy f (l ++ r)) = max (max (f x) (maxBy f l)) (maxBy f r)
    rw [ih]; omega
theorem maxBy_map {α β : Type} (f : β → Nat) (g : α → β) : ∀ l : List α, maxBy f (l.map g) = maxBy (fun x => f (g x)) l := by
  intro l
  induction l with
  | nil => rfl
  | cons x l ih => show max (f (g x)) (maxBy f (l.map g)) = _; rw [ih]; rfl
theorem maxBy_congr {α : Type} {f g : α → Nat} (h : ∀ x, f x = g x) : ∀ l : List α, maxBy f l = maxBy g l := by
  intro l
  induction l with
  | nil => rfl
  | cons x l ih => show max (f x) (maxBy f l) = max (g x) (maxBy g l); rw [h, ih]
/-- How deep nodes are. -/
def deepN : (n : Nat) → NT n → Nat
  | 0, _ => 0
  | n + 1, x => 1 + max (maxBy (deepN n) (NN.body x)) (maxBy (deepN n) (NN.els x))
theorem lift_may (u : Int) : ∀ (n : Nat) (x : NT n), mayN u (n + 1) (liftN n x) = mayN u n x := by
  intro n
  induction n with
  | zero => intro x; exact x.elim
  | succ n ih =>
    intro x
    have hf : (fun y => mayN u (n + 1) (liftN n y)) = mayN u n := by funext y; exact ih y
    show (headMay (α := NT n) u x && ((NN.body x).map (liftN n)).all (mayN u (n + 1)) && ((NN.els x).map (liftN n)).all (mayN u (n + 1))) = (headMay (α := NT n) u x && (NN.body x).all (mayN u n) && (NN.els x).all (mayN u n))
    rw [List.all_map, List.all_map]
    show (headMay (α := NT n) u x && (NN.body x).all (fun y => mayN u (n + 1) (liftN n y)) && (NN.els x).all (fun y => mayN u (n + 1) (liftN n y))) = _
    rw [hf]
theorem lift_deep : ∀ (n : Nat) (x : NT n), deepN (n + 1) (liftN n x) = deepN n x := by
  intro n
  induction n with
  | zero => intro x; exact x.elim
  | succ n ih =>
    intro x
    show 1 + max (maxBy (deepN (n + 1)) ((NN.body x).map (liftN n))) (maxBy (deepN (n + 1)) ((NN.els x).map (liftN n))) = 1 + max (maxBy (deepN n) (NN.body x)) (maxBy (deepN n) (NN.els x))
    rw [maxBy_map, maxBy_map, maxBy_congr ih, maxBy_congr ih]
/-- What is folded of what may be may be, and is no deeper. -/
theorem folds_may (B : Nat) (u : Int) : ∀ (n : Nat) (l out : List (NT n)) (m : Nat), FoldsTo B n l out → (∀ x ∈ l, mayN u n x = true ∧ deepN n x ≤ m) → ∀ y ∈ out, mayN u n y = true ∧ deepN n y ≤ m := by
  intro n
  induction n with
  | zero =>
    intro l out m h hl
    have h : out = l := h
    subst h
    exact hl
  | succ n ih =>
    intro l out m h hl
    obtain ⟨mid, h1, rfl⟩ := h
    refine beside_mem (α := NT n) (P := fun y => mayN u (n + 1) y = true ∧ deepN (n + 1) y ≤ m) (fun x y hy => hy) mid ?_
    refine rows_mem (P := fun y => mayN u (n + 1) y = true ∧ deepN (n + 1) y ≤ m) (fun x hx o ho => ?_) h1
    obtain ⟨b, e, hb, he, hn⟩ := ho
    obtain ⟨hm, hd⟩ := hl x hx
    have hm' : (headMay (α := NT n) u x && x.body.all (mayN u n) && x.els.all (mayN u n)) = true := hm
    have hd' : 1 + max (maxBy (deepN n) x.body) (maxBy (deepN n) x.els) ≤ m := hd
    simp only [Bool.and_eq_true, List.all_eq_true] at hm'
    obtain ⟨⟨hh, hB⟩, hE⟩ := hm'
    have gb := ih x.body b (maxBy (deepN n) x.body) hb (fun z hz => ⟨hB z hz, le_maxBy hz⟩)
    have ge := ih x.els e (maxBy (deepN n) x.els) he (fun z hz => ⟨hE z hz, le_maxBy hz⟩)
    intro y hy
    cases hn with
    | told s h3 _ =>
      split at hy
      · cases hy
      · rw [List.mem_singleton.1 hy]
        refine ⟨rfl, ?_⟩
        show 1 + max 0 0 ≤ m
        omega
    | picked l' o' _ h3 h4 =>
      subst h4
      obtain ⟨z, hz, rfl⟩ := List.mem_map.1 hy
      show mayN u (n + 1) (liftN n z) = true ∧ deepN (n + 1) (liftN n z) ≤ m
      rw [lift_may, lift_deep]
      rcases pick_cases h3 with rfl | rfl
      · exact ⟨(gb z hz).1, by have := (gb z hz).2; omega⟩
      · exact ⟨(ge z hz).1, by have := (ge z hz).2; omega⟩
    | kept h3 h4 =>
      rw [List.mem_singleton.1 hy]
      constructor
      · show (headMay (α := NT n) u x && b.all (mayN u n) && e.all (mayN u n)) = true
        simp only [Bool.and_eq_true, List.all_eq_true]
        exact ⟨⟨hh, fun z hz => (gb z hz).1⟩, fun z hz => (ge z hz).1⟩
      · show 1 + max (maxBy (deepN n) b) (maxBy (deepN n) e) ≤ m
        have h5 := maxBy_le (fun z hz => (gb z hz).2)
        have h6 := maxBy_le (fun z hz => (ge z hz).2)
        omega
end Go.Proofs.YtnepogddjinpoaaGreatDoor

namespace Go.Proofs.YtnepogddjinpoaaGreatDoor
open Go.RowKit
set_option linter.unusedVariables false
set_option linter.unusedSimpArgs false

/-- How long their texts are. -/
def textsN : (n : Nat) → NT n → Nat
  | 0, _ => 0
  | n + 1, x => (NN.s x).length + sumBy (textsN n) (NN.body x) + sumBy (textsN n) (NN.els x)
theorem sum_mapF {α β : Type} (f : β → Nat) (g : α → β) : ∀ l : List α, sumBy f (l.map g) = sumBy (fun x => f (g x)) l := by
  intro l
  induction l with
  | nil => rfl
  | cons x l ih => show f (g x) + sumBy f (l.map g) = _; rw [ih]; rfl
theorem sum_congrF {α : Type} {f g : α → Nat} (h : ∀ x, f x = g x) : ∀ l : List α, sumBy f l = sumBy g l := by
  intro l
  induction l with
  | nil => rfl
  | cons x l ih => show f x + sumBy f l = g x + sumBy g l; rw [h, ih]
theorem lift_bare : ∀ (n : Nat) (x : NT n), bareN (n + 1) (liftN n x) = bareN n x := by
  intro n
  induction n with
  | zero => intro x; exact x.elim
  | succ n ih =>
    intro x
    show 1 + (NN.nm x).length + sumBy massC (NN.pipe x) + sumBy (bareN (n + 1)) ((NN.body x).map (liftN n)) + sumBy (bareN (n + 1)) ((NN.els x).map (liftN n)) = 1 + (NN.nm x).length + sumBy massC (NN.pipe x) + sumBy (bareN n) (NN.body x) + sumBy (bareN n) (NN.els x)
    rw [sum_mapF, sum_mapF, sum_congrF ih, sum_congrF ih]
theorem lift_texts : ∀ (n : Nat) (x : NT n), textsN (n + 1) (liftN n x) = textsN n x := by
  intro n
  induction n with
  | zero => intro x; exact x.elim
  | succ n ih =>
    intro x
    show (NN.s x).length + sumBy (textsN (n + 1)) ((NN.body x).map (liftN n)) + sumBy (textsN (n + 1)) ((NN.els x).map (liftN n)) = (NN.s x).length + sumBy (textsN n) (NN.body x) + sumBy (textsN n) (NN.els x)
    rw [sum_mapF, sum_mapF, sum_congrF ih, sum_congrF ih]
theorem sum_appF {α : Type} (f : α → Nat) (l r : List α) : sumBy f (l ++ r) = sumBy f l + sumBy f r := by
  induction l with
  | nil => simp [sumBy]
  | cons a l ih => simp only [List.cons_append, sumBy, ih]; omega
theorem beside_sum {α : Type} (f : NN α → Nat) (hf : ∀ x y : NN α, x.k = 1 → f { y with s := y.s ++ x.s } ≤ f y + f x) : ∀ l : List (NN α), sumBy f (besideL l) ≤ sumBy f l := by
  have step : ∀ (out : List (NN α)) (x : NN α), sumBy f (besideStep out x) ≤ sumBy f out + f x := by
    intro out x
    unfold besideStep
    cases hl : out.getLast? with
    | none => rw [List.getLast?_eq_none_iff.1 hl]; simp [sumBy]
    | some y =>
      have hs := last_split hl
      simp only
      split
      · rename_i hk
        have e : sumBy f out = sumBy f out.dropLast + f y := by
          conv => lhs; rw [hs, sum_appF]
          simp [sumBy]
        rw [sum_appF, e]
        have := hf x y hk.1
        simp only [sumBy]
        omega
      · rw [sum_appF]; simp [sumBy]
  have key : ∀ (l out : List (NN α)), sumBy f (l.foldl besideStep out) ≤ sumBy f out + sumBy f l := by
    intro l
    induction l with
    | nil => intro out; simp [sumBy]
    | cons x l ih =>
      intro out
      have h1 := ih (besideStep out x)
      have h2 := step out x
      rw [List.foldl_cons]
      simp only [sumBy]
      omega
  intro l
  have := key l []
  simpa [besideL, sumBy] using this
theorem rows_sum {α β : Type} {R : α → List β → Prop} (f : β → Nat) (g : α → Nat) : ∀ {l : List α} {out : List β}, (∀ x ∈ l, ∀ o, R x o → sumBy f o ≤ g x) → Rows2 R l out → sumBy f out ≤ sumBy g l := by
  intro l
  induction l with
  | nil =>
    intro out _ h
    have h : out = [] := h
    subst h
    exact Nat.le_refl _
  | cons x l ih =>
    intro out hP h
    obtain ⟨o, o', h1, h2, rfl⟩ := h
    have a := hP x (by simp) o h1
    have b := ih (fun z hz => hP z (by simp [hz])) h2
    rw [sum_appF]
    show _ ≤ g x + sumBy g l
    omega
/-- What is folded holds no more, but for texts. -/
theorem folds_bare (B : Nat) : ∀ (n : Nat) (l out : List (NT n)), FoldsTo B n l out → sumBy (bareN n) out ≤ sumBy (bareN n) l := by
  intro n
  induction n with
  | zero =>
    intro l out h
    have h : out = l := h
    rw [h]; exact Nat.le_refl _
  | succ n ih =>
    intro l out h
    obtain ⟨mid, h1, rfl⟩ := h
    refine Nat.le_trans (beside_sum (α := NT n) (bareN (n + 1)) (fun x y _ => Nat.le_add_right _ _) mid) ?_
    refine rows_sum (bareN (n + 1)) (bareN (n + 1)) (fun x hx o ho => ?_) h1
    obtain ⟨b, e, hb, he, hn⟩ := ho
    have mb := ih _ _ hb
    have me := ih _ _ he
    show sumBy (bareN (n + 1)) o ≤ 1 + x.nm.length + sumBy massC x.pipe + sumBy (bareN n) x.body + sumBy (bareN n) x.els
    cases hn with
    | told s h3 _ =>
      split
      · exact Nat.zero_le _
      · show 1 + 0 + 0 + 0 + 0 + 0 ≤ _
        omega
    | picked l' o' _ h3 h4 =>
      subst h4
      rw [sum_mapF, sum_congrF (lift_bare n)]
      rcases pick_cases h3 with rfl | rfl
      · show sumBy (bareN n) l' ≤ _
        omega
      · show sumBy (bareN n) l' ≤ _
        omega
    | kept h3 h4 =>
      show (1 + x.nm.length + sumBy massC x.pipe + sumBy (bareN n) b + sumBy (bareN n) e) + 0 ≤ _
      omega
/-- How long folded nodes' texts are. -/
theorem folds_texts (B : Nat) : ∀ (n : Nat) (l out : List (NT n)), FoldsTo B n l out → sumBy (textsN n) out ≤ sumBy (fun x => textsN n x + B * bareN n x) l := by
  intro n
  induction n with
  | zero =>
    intro l out h
    have h : out = l := h
    subst h
    exact sumBy_le _ (fun x _ => Nat.le_add_right _ _)
  | succ n ih =>
    intro l out h
    obtain ⟨mid, h1, rfl⟩ := h
    refine Nat.le_trans (beside_sum (α := NT n) (textsN (n + 1)) (fun x y _ => ?_) mid) ?_
    · show (y.s ++ x.s).length + sumBy (textsN n) y.body + sumBy (textsN n) y.els ≤ (y.s.length + sumBy (textsN n) y.body + sumBy (textsN n) y.els) + (x.s.length + sumBy (textsN n) x.body + sumBy (textsN n) x.els)
      rw [List.length_append]
      omega
    refine rows_sum (textsN (n + 1)) (fun x => textsN (n + 1) x + B * bareN (n + 1) x) (fun x hx o ho => ?_) h1
    obtain ⟨b, e, hb, he, hn⟩ := ho
    have split2 : ∀ r : List (NT n), sumBy (fun x => textsN n x + B * bareN n x) r = sumBy (textsN n) r + B * sumBy (bareN n) r := by
      intro r
      induction r with
      | nil => rfl
      | cons z r ihr =>
        show textsN n z + B * bareN n z + sumBy (fun x => textsN n x + B * bareN n x) r = textsN n z + sumBy (textsN n) r + B * (bareN n z + sumBy (bareN n) r)
        rw [ihr, Nat.mul_add]; omega
    have mb := ih _ _ hb
    have me := ih _ _ he
    rw [split2] at mb me
    show sumBy (textsN (n + 1)) o ≤ (x.s.length + sumBy (textsN n) x.body + sumBy (textsN n) x.els) + B * (1 + x.nm.length + sumBy massC x.pipe + sumBy (bareN n) x.body + sumBy (bareN n) x.els)
    have hB : B * (1 + x.nm.length + sumBy massC x.pipe + sumBy (bareN n) x.body + sumBy (bareN n) x.els) = B + B * x.nm.length + B * sumBy massC x.pipe + B * sumBy (bareN n) x.body + B * sumBy (bareN n) x.els := by
      rw [Nat.mul_add, Nat.mul_add, Nat.mul_add, Nat.mul_add, Nat.mul_one]
    rw [hB]
    cases hn with
    | told s h3 h5 =>
      split
      · exact Nat.zero_le _
      · show (s.length + 0 + 0) + 0 ≤ _
        omega
    | picked l' o' _ h3 h4 =>
      subst h4
      rw [sum_mapF, sum_congrF (lift_texts n)]
      rcases pick_cases h3 with rfl | rfl
      · show sumBy (textsN n) l' ≤ _
        omega
      · show sumBy (textsN n) l' ≤ _
        omega
    | kept h3 h4 =>
      show (x.s.length + sumBy (textsN n) b + sumBy (textsN n) e) + 0 ≤ _
      omega
end Go.Proofs.YtnepogddjinpoaaGreatDoor

namespace Go.Proofs.YtnepogddjinpoaaGreatDoor
open Go.RowKit
set_option linter.unusedVariables false
set_option linter.unusedSimpArgs false

def FlatD (d : VD 0) : Prop := 0 ≤ d.k ∧ d.k ≤ 4 ∧ d.ks = []
def FlatR (r : ResD 0) : Prop := ∀ d, r.1 = some d → FlatD d
theorem flat_none (f : Int) : FlatR (none, f) := fun d h => by cases h
theorem flat_some {d : VD 0} (h : FlatD d) (f : Int) : FlatR (some d, f) := fun e he => by injection he with he; rw [← he]; exact h
theorem flat_text (s : List UInt8) : FlatD (textD s) := ⟨(by decide : (0 : Int) ≤ 4), (by decide : (4 : Int) ≤ 4), rfl⟩
theorem flat_int (i : Int) : FlatD (intD i) := ⟨(by decide : (0 : Int) ≤ 3), (by decide : (3 : Int) ≤ 4), rfl⟩
theorem flat_truth (b : Bool) : FlatD (truthD b) := by cases b <;> exact ⟨by decide, by decide, rfl⟩
theorem flat_null : FlatD nullD := ⟨by decide, by decide, rfl⟩
theorem flat_made (s : List UInt8) : FlatR (madeD s) := by
  unfold madeD
  split
  · exact flat_none _
  · exact flat_some (flat_text _) _
theorem two_flat (name : List UInt8) {a b : VD 0} (ha : FlatD a) (hb : FlatD b) : FlatR (twoR name a b) := by
  have h5 : ¬ a.k = 5 := by have := ha.2.1; omega
  have h6 : ¬ a.k = 6 := by have := ha.2.1; omega
  unfold twoR
  split
  · exact flat_some (flat_truth _) _
  · split
    · split
      · exact flat_some (flat_truth _) _
      · split
        · exact flat_some (flat_truth _) _
        · exact flat_none _
    · split
      · exact flat_some (by split <;> assumption) _
      · split
        · exact flat_some (by split <;> assumption) _
        · split
          · exact flat_some (by split <;> assumption) _
          · split
            · rw [if_neg (fun h => h5 h.1), if_neg (fun h => h6 h.1)]
              exact flat_none _
            · rw [if_neg (fun h => h5 h.1)]
              exact flat_none _
theorem call_flat (name : List UInt8) (l : List (VD 0)) (h : ∀ x ∈ l, FlatD x) : FlatR (callR name l) := by
  unfold callR
  simp only []
  split
  · exact flat_none _
  · split
    · exact flat_none _
    · cases l with
      | nil => exact flat_none _
      | cons a t =>
        have ha := h a (by simp)
        simp only []
        split
        · split
          · exact flat_some (flat_int _) _
          · exact flat_none _
        · split
          · exact flat_some (flat_truth _) _
          · split
            · exact flat_made _
            · split
              · split
                · exact flat_some (flat_text _) _
                · exact flat_none _
              · split
                · split
                  · exact flat_some (flat_text _) _
                  · exact flat_none _
                · cases t with
                  | nil => exact flat_none _
                  | cons b r => exact two_flat _ ha (h b (by simp))
theorem arg_flat (e : EnvD 0) (a : ArgD) (h : asksA a = false) : FlatR (argR e a) := by
  unfold asksA at h
  simp only [Bool.or_eq_false_iff, beq_eq_false_iff_ne] at h
  unfold argR
  rw [if_neg h.1, if_neg h.2]
  split
  · exact flat_some (flat_int _) _
  · split
    · exact flat_some (flat_text _) _
    · split
      · exact flat_some (flat_truth _) _
      · split
        · exact flat_some (flat_truth _) _
        · split
          · exact flat_some flat_null _
          · exact flat_none _
theorem args_flat (e : EnvD 0) : ∀ (l : List ArgD), (l.any asksA) = false → ∀ xs, (argsR e l).1 = some xs → ∀ x ∈ xs, FlatD x := by
  intro l
  induction l with
  | nil => intro _ xs h; injection h with h; subst h; intro x hx; cases hx
  | cons a l ih =>
    intro h xs hx
    simp only [List.any_cons, Bool.or_eq_false_iff] at h
    unfold argsR at hx
    split at hx
    · rename_i v hv
      split at hx
      · rename_i ys hys
        injection hx with hx
        subst hx
        intro x hx
        rcases List.mem_cons.1 hx with h1 | h1
        · rw [h1]; exact arg_flat e a h.1 v (by rw [hv])
        · exact ih h.2 ys (by rw [hys]) x h1
      · cases hx
    · cases hx
theorem step_flat (e : EnvD 0) (c : CallD) (h : (c.args.any asksA) = false) (last : Option (VD 0)) (hl : ∀ d, last = some d → FlatD d) : FlatR (stepR e c last) := by
  unfold stepR
  split
  · rename_i l hr
    have hg : ∀ x ∈ l ++ last.toList, FlatD x := by
      intro x hx
      rcases List.mem_append.1 hx with h1 | h1
      · exact args_flat e c.args h l (by rw [hr]) x h1
      · exact hl x (by simpa using h1)
    simp only []
    split
    · exact call_flat _ _ hg
    · split
      · rename_i v hv
        exact flat_some (hg v (by rw [hv]; simp)) _
      · exact flat_none _
  · exact flat_none _
theorem from_flat (e : EnvD 0) : ∀ (l : List CallD) (last : Option (VD 0)), (l.any fun c => c.args.any asksA) = false → (∀ d, last = some d → FlatD d) → FlatR (pipeFrom e l last) := by
  intro l
  induction l with
  | nil => intro last _ hl d hd; exact hl d hd
  | cons c l ih =>
    intro last h hl
    simp only [List.any_cons, Bool.or_eq_false_iff] at h
    have hs := step_flat e c h.1 last hl
    unfold pipeFrom
    split
    · rename_i v hv
      exact ih (some v) h.2 (fun d hd => by injection hd with hd; subst hd; exact hs v (by rw [hv]))
    · exact flat_none _
theorem value_flat {l : List CallD} {d : VD 0} (h : valueP l = some d) : FlatD d := by
  unfold valueP at h
  split at h
  · rename_i hc
    unfold constP at hc
    rw [Bool.not_eq_true'] at hc
    unfold pipeR at h
    split at h
    · cases h
    · exact from_flat envO l none hc (fun d hd => by cases hd) d h
  · cases h
end Go.Proofs.YtnepogddjinpoaaGreatDoor

namespace Go.Proofs.YtnepogddjinpoaaGreatDoor
open Go.RowKit
set_option linter.unusedVariables false
set_option linter.unusedSimpArgs false

/-- A state's parts. -/
structure StZ where
  k : Int
  el : ByteArray
  at_ : ByteArray
  d : Int
  pe : ByteArray
  re : ByteArray
  pa : Int
  wo : ByteArray
structure UnitD (n : Nat) where
  nm : ByteArray
  f : StZ
  t : StZ
  body : List (NT n)
abbrev unitCells (nm : ByteArray) (f t : StZ) (a : Option Addr) (m c : Nat) : List Value :=
  [.string nm, .int .i64 f.k, .string f.el, .string f.at_, .int .u8 f.d, .string f.pe, .string f.re, .int .i64 f.pa, .string f.wo, .int .i64 t.k, .string t.el, .string t.at_, .int .u8 t.d, .string t.pe, .string t.re, .int .i64 t.pa, .string t.wo, .slice a m c]
def UnitR (n : Nat) : Rel (UnitD n) := fun U w vs x => ∃ a c, vs = unitCells x.nm x.f x.t a x.body.length c ∧ AtR (NodeR n) 9 U w a x.body
theorem UnitR.steady (n : Nat) : Steady (UnitR n) := fun _ _ _ _ hs vs x ⟨a, c, h1, h2⟩ => ⟨a, c, h1, h2.on (NodeR.steady n) hs⟩
theorem unitCells1 (nm : ByteArray) (f t : StZ) (a : Option Addr) (m c : Nat) : ∀ v ∈ unitCells nm f t a m c, v.oneCell' = true := by
  intro v hv
  simp only [unitCells, List.mem_cons, List.not_mem_nil, or_false] at hv
  rcases hv with rfl | rfl | rfl | rfl | rfl | rfl | rfl | rfl | rfl | rfl | rfl | rfl | rfl | rfl | rfl | rfl | rfl | rfl <;> rfl
def bareU (n : Nat) (x : UnitD n) : Nat := 1 + sumBy (bareN n) x.body
def textsU (n : Nat) (x : UnitD n) : Nat := sumBy (textsN n) x.body
def deepU (n : Nat) (x : UnitD n) : Nat := maxBy (deepN n) x.body
/-- May units be? The error's number. -/
def checkU (n : Nat) (l : List (UnitD n)) : Int :=
  if l = [] then 71 else if 17 < maxBy (deepU n) l then 42 else if l.all (fun x => x.body.all (mayN (l.length : Int) n)) then 0 else 9
theorem AtR.cells {α : Type} {R : Rel α} {size : Nat} {U : World → Nat → Prop} {w : World} {a : Option Addr} {l : List α} (h : AtR R size U w a l) {j : Nat} {x : α} (hx : l[j]? = some x) : ∃ b off vs, a = some ⟨b, off, none⟩ ∧ w.rangeAt b (off + j * size) vs ∧ vs.length = size ∧ R U w vs x := by
  obtain ⟨b, off, vs, h1, _, _, h2, h3, h4⟩ := h j x hx
  exact ⟨b, off, vs, h1, fun t v ht => h3 t v ht, h2, h4⟩
end Go.Proofs.YtnepogddjinpoaaGreatDoor
