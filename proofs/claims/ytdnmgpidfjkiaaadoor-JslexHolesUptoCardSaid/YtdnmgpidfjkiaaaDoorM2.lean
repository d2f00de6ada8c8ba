/-
  PLAIN LAWS of many texts, in one.
-/
import Derived.Test.YtdnmgpidfjkiaaaDoorM1
import Derived.OwnWalk
import Derived.Deep.OwnRows
namespace Go.Proofs.YtdnmgpidfjkiaaaDoor
open Go.RowKit
set_option linter.unusedVariables false

/-- A value's own parts: kind, number, text, list, keys. -/
structure VN (α : Type) where
  k : Int
  i : Int
  s : List UInt8
  l : List α
  ks : List (List UInt8)
/-- Values up to a depth. -/
def VT : Nat → Type
  | 0 => Empty
  | n + 1 => VN (VT n)
/-- A value that is written out. -/
abbrev valV (k i : Int) (s : ByteArray) (a : Option Addr) (n c : Nat) (a2 : Option Addr) (n2 c2 : Nat) : Value :=
  .agg #[.int .i64 k, .int .i64 i, .string s, .slice a n c, .slice a2 n2 c2]
/-- Texts that lie one behind the other, in a block that U lets by. -/
def StrsAt (U : World → Nat → Prop) (w : World) (a : Option Addr) (ks : List (List UInt8)) : Prop :=
  ∀ j x, ks[j]? = some x → ∃ b off, a = some ⟨b, off, none⟩ ∧ b < w.heap.size ∧ U w b ∧ w.cell? ⟨b, off + j, none⟩ = some (.string ⟨x.toArray⟩)
/-- Five cells of a value in a list. -/
structure Five (w : World) (b o : Nat) (k i : Int) (s : ByteArray) (a : Option Addr) (n c : Nat) (a2 : Option Addr) (n2 c2 : Nat) : Prop where
  e0 : w.cell? ⟨b, o, none⟩ = some (.int .i64 k)
  e1 : w.cell? ⟨b, o + 1, none⟩ = some (.int .i64 i)
  e2 : w.cell? ⟨b, o + 2, none⟩ = some (.string s)
  e3 : w.cell? ⟨b, o + 3, none⟩ = some (.slice a n c)
  e4 : w.cell? ⟨b, o + 4, none⟩ = some (.slice a2 n2 c2)
/-- Values that lie one behind the other; R says what they are. -/
def ValsAt {α : Type} (U : World → Nat → Prop) (w : World) (R : Value → α → Prop) (a : Option Addr) (l : List α) : Prop :=
  ∀ j x, l[j]? = some x → ∃ b off, a = some ⟨b, off, none⟩ ∧ b < w.heap.size ∧ U w b ∧ ∃ k i s a1 n1 c1 a2 n2 c2, Five w b (off + j * 5) k i s a1 n1 c1 a2 n2 c2 ∧ R (valV k i s a1 n1 c1 a2 n2 c2) x
/-- A value in a world: its lists lie in blocks that U lets by. -/
def IsV (U : World → Nat → Prop) (w : World) : (n : Nat) → Value → VT n → Prop
  | 0, _, _ => False
  | n + 1, v, d => ∃ a c a2 c2, v = valV (VN.k d) (VN.i d) ⟨(VN.s d).toArray⟩ a (VN.l d).length c a2 (VN.ks d).length c2 ∧ StrsAt U w a2 (VN.ks d) ∧ ValsAt U w (IsV U w n) a (VN.l d)
def anyB : World → Nat → Prop := fun _ _ => True
/-- A block from N on, of plain cells. -/
def freshB (N : Nat) : World → Nat → Prop := fun w b => N ≤ b ∧ ∃ cs t, w.heap[b]? = some (.cells cs t)
theorem IsV.parts {U : World → Nat → Prop} {w : World} {n : Nat} {v : Value} {d : VN (VT n)} (h : IsV U w (n + 1) v d) : ∃ a c a2 c2, v = valV d.k d.i ⟨d.s.toArray⟩ a d.l.length c a2 d.ks.length c2 ∧ StrsAt U w a2 d.ks ∧ ValsAt U w (IsV U w n) a d.l := h
theorem IsV.made {U : World → Nat → Prop} {w : World} {n : Nat} {d : VN (VT n)} {a a2 : Option Addr} {c c2 : Nat} (h1 : StrsAt U w a2 d.ks) (h2 : ValsAt U w (IsV U w n) a d.l) : IsV U w (n + 1) (valV d.k d.i ⟨d.s.toArray⟩ a d.l.length c a2 d.ks.length c2) d := ⟨a, c, a2, c2, rfl, h1, h2⟩
theorem cellB {w w' : World} {b : Nat} (h : w'.heap[b]? = w.heap[b]?) (o : Nat) : w'.cell? ⟨b, o, none⟩ = w.cell? ⟨b, o, none⟩ := World.cell?_of_block h
/-- What stays where the blocks stay. -/
structure Stays (U U' : World → Nat → Prop) (w w' : World) : Prop where
  size : w.heap.size ≤ w'.heap.size
  block : ∀ b, b < w.heap.size → U w b → w'.heap[b]? = w.heap[b]? ∧ U' w' b
theorem StrsAt.on {U U' : World → Nat → Prop} {w w' : World} {a : Option Addr} {ks : List (List UInt8)} (h : StrsAt U w a ks) (hs : Stays U U' w w') : StrsAt U' w' a ks := by
  intro j x hx
  obtain ⟨b, off, ha, hb, hu, hc⟩ := h j x hx
  obtain ⟨h1, h2⟩ := hs.block b hb hu
  exact ⟨b, off, ha, Nat.lt_of_lt_of_le hb hs.size, h2, (cellB h1 _).trans hc⟩
theorem Five.on {w w' : World} {b o : Nat} {k i : Int} {s : ByteArray} {a : Option Addr} {n c : Nat} {a2 : Option Addr} {n2 c2 : Nat} (h : Five w b o k i s a n c a2 n2 c2) (hb : w'.heap[b]? = w.heap[b]?) : Five w' b o k i s a n c a2 n2 c2 :=
  ⟨(cellB hb _).trans h.e0, (cellB hb _).trans h.e1, (cellB hb _).trans h.e2, (cellB hb _).trans h.e3, (cellB hb _).trans h.e4⟩
theorem ValsAt.on {α : Type} {U U' : World → Nat → Prop} {w w' : World} {R R' : Value → α → Prop} {a : Option Addr} {l : List α} (h : ValsAt U w R a l) (hs : Stays U U' w w') (hR : ∀ v x, R v x → R' v x) : ValsAt U' w' R' a l := by
  intro j x hx
  obtain ⟨b, off, ha, hb, hu, k, i, s, a1, n1, c1, a2, n2, c2, h5, hr⟩ := h j x hx
  obtain ⟨h1, h2⟩ := hs.block b hb hu
  exact ⟨b, off, ha, Nat.lt_of_lt_of_le hb hs.size, h2, k, i, s, a1, n1, c1, a2, n2, c2, h5.on h1, hR _ _ hr⟩
theorem IsV.on {U U' : World → Nat → Prop} {w w' : World} (hs : Stays U U' w w') : ∀ (n : Nat) (v : Value) (d : VT n), IsV U w n v d → IsV U' w' n v d := by
  intro n
  induction n with
  | zero => intro v d h; exact h.elim
  | succ n ih =>
    intro v d h
    obtain ⟨a, c, a2, c2, hv, h1, h2⟩ := h
    exact ⟨a, c, a2, c2, hv, h1.on hs, h2.on hs (ih)⟩
theorem Stays.of_below {U : World → Nat → Prop} {w w' : World} (hb : Below w.heap.size w w') (hU : ∀ b, b < w.heap.size → U w b → U w' b) : Stays U U w w' :=
  ⟨hb.size, fun b h1 h2 => ⟨hb.block b h1, hU b h1 h2⟩⟩
theorem stays_any {w w' : World} (hb : Below w.heap.size w w') : Stays anyB anyB w w' := Stays.of_below hb fun _ _ _ => trivial
theorem stays_fresh {w w' : World} {N : Nat} (hb : Below w.heap.size w w') : Stays (freshB N) (freshB N) w w' :=
  Stays.of_below hb fun b h1 ⟨h2, cs, t, h3⟩ => ⟨h2, cs, t, (hb.block b h1).trans h3⟩
theorem fresh_any {N : Nat} {w : World} {n : Nat} {v : Value} {d : VT n} (h : IsV (freshB N) w n v d) : IsV anyB w n v d :=
  IsV.on (w := w) (w' := w) ⟨Nat.le_refl _, fun b _ _ => ⟨rfl, trivial⟩⟩ n v d h
theorem fresh_from {N M : Nat} (hNM : N ≤ M) {w : World} {n : Nat} {v : Value} {d : VT n} (h : IsV (freshB M) w n v d) : IsV (freshB N) w n v d :=
  IsV.on (w := w) (w' := w) ⟨Nat.le_refl _, fun b _ ⟨h1, h2⟩ => ⟨rfl, Nat.le_trans hNM h1, h2⟩⟩ n v d h
/-- No list, no text is longer than the bound. -/
def SmallV : (n : Nat) → VT n → Prop
  | 0, _ => True
  | n + 1, d => (VN.s d).length ≤ 140737488351232 ∧ (VN.l d).length * 80 ≤ 140737488351232 ∧ (VN.ks d).length * 16 ≤ 140737488351232 ∧ (∀ x ∈ VN.ks d, x.length ≤ 140737488351232) ∧ ∀ x ∈ VN.l d, SmallV n x
/-- The same value? -/
def eqV : (n : Nat) → VT n → VT n → Bool
  | 0, _, _ => true
  | n + 1, d, e => decide (VN.k d = VN.k e) && decide (VN.i d = VN.i e) && (VN.s d == VN.s e) && ((VN.l d).length == (VN.l e).length) && (VN.ks d == VN.ks e) && ((VN.l d).zip (VN.l e)).all fun p => eqV n p.1 p.2
theorem eqV_refl : ∀ (n : Nat) (d : VT n), eqV n d d = true := by
  intro n
  induction n with
  | zero => intro d; rfl
  | succ n ih =>
    intro d
    show (decide (VN.k d = VN.k d) && decide (VN.i d = VN.i d) && (VN.s d == VN.s d) && ((VN.l d).length == (VN.l d).length) && (VN.ks d == VN.ks d) && ((VN.l d).zip (VN.l d)).all fun p => eqV n p.1 p.2) = true
    have : (((VN.l d).zip (VN.l d)).all fun p => eqV n p.1 p.2) = true := by
      rw [List.all_eq_true]
      intro p hp
      obtain ⟨j, hj, e⟩ := List.getElem_of_mem hp
      rw [List.getElem_zip] at e
      subst e
      exact ih _
    simp [this]
end Go.Proofs.YtdnmgpidfjkiaaaDoor

namespace Go.Proofs.YtdnmgpidfjkiaaaDoor
set_option linter.unusedVariables false

/-- What no name holds. -/
def notName (c : UInt8) : Bool := !isLetter c && !(c.toNat == 95) && !isDig c
/-- Is it a name? -/
def isName (l : List UInt8) : Bool := match l with
  | [] => false
  | c :: r => decide (r.length < 32) && !isDig c && !(c :: r).any notName
theorem isName_cons (c : UInt8) (r : List UInt8) : isName (c :: r) = (decide (r.length < 32) && !isDig c && !(c :: r).any notName) := rfl
end Go.Proofs.YtdnmgpidfjkiaaaDoor

namespace Go.Proofs.YtdnmgpidfjkiaaaDoor
open Go.RowKit
set_option linter.unusedVariables false
set_option linter.unusedSimpArgs false

/-- Is a key, by its place, a name above the one ahead? -/
def upAt (ks : List (List UInt8)) (j : Nat) : Bool :=
  match ks[j]? with
  | none => true
  | some k => isName k && (j == 0 || match ks[j - 1]? with | none => true | some p => Op.bytesLess p k)
def risingK (ks : List (List UInt8)) : Bool := (List.range ks.length).all (upAt ks)
theorem upAt_zero {ks : List (List UInt8)} {k : List UInt8} (h : ks[0]? = some k) : upAt ks 0 = isName k := by
  unfold upAt; rw [h]; simp
theorem upAt_succ {ks : List (List UInt8)} {j : Nat} {k p : List UInt8} (h : ks[j + 1]? = some k) (hp : ks[j]? = some p) : upAt ks (j + 1) = (isName k && Op.bytesLess p k) := by
  unfold upAt; rw [h]; simp [hp]
theorem risingK_bad {ks : List (List UInt8)} {j : Nat} (hj : j < ks.length) (h : upAt ks j = false) : risingK ks = false := by
  unfold risingK
  rw [List.all_eq_false]
  exact ⟨j, List.mem_range.2 hj, by simp [h]⟩
theorem risingK_good {ks : List (List UInt8)} (h : ∀ j, j < ks.length → upAt ks j = true) : risingK ks = true := by
  unfold risingK
  rw [List.all_eq_true]
  intro j hj
  exact h j (List.mem_range.1 hj)
theorem mkData (l : List UInt8) : (⟨l.toArray⟩ : ByteArray).data.toList = l := by simp
theorem mkSize (l : List UInt8) : (⟨l.toArray⟩ : ByteArray).size = l.length := by simp [ByteArray.size]
theorem bytesLeq : ∀ x y : List UInt8, (Op.bytesLess x y || x == y) = !Op.bytesLess y x := by
  intro x
  induction x with
  | nil => intro y; cases y <;> simp [Op.bytesLess]
  | cons a x ih =>
    intro y
    cases y with
    | nil => simp [Op.bytesLess]
    | cons b y =>
      have h := ih y
      simp only [Op.bytesLess, List.cons_beq_cons]
      by_cases hab : a = b
      · subst hab
        have hlt : decide (a < a) = false := by simp [UInt8.lt_irrefl]
        simp [hlt, h]
      · have h1 : (a == b) = false := by simpa using hab
        have h2 : (b == a) = false := by simpa using Ne.symm hab
        rw [h1, h2]
        simp only [Bool.false_and, Bool.or_false]
        by_cases hlt : a < b
        · have h3 : ¬ b < a := fun h3 => by have := UInt8.lt_iff_toNat_lt.1 hlt; have := UInt8.lt_iff_toNat_lt.1 h3; omega
          simp [hlt, h3]
        · have h3 : b < a := by
            have e1 : ¬ a.toNat < b.toNat := fun h => hlt (UInt8.lt_iff_toNat_lt.2 h)
            have e2 : a.toNat ≠ b.toNat := fun h => hab (UInt8.toNat_inj.1 h)
            exact UInt8.lt_iff_toNat_lt.2 (by omega)
          simp [hlt, h3]
/-- What is wrong with a value's own parts. -/
def headErr (deep : Nat) (k i : Int) (sl nl kl : Nat) (up : Bool) : Int :=
  if (k = 5 ∨ k = 6) ∧ deep = 16 then 42
  else if 4096 < sl then 5
  else if 1024 < nl ∨ 1024 < kl then 3
  else if k < 0 ∨ 11 < k ∨ (k ≠ 3 ∧ i ≠ 0) ∨ (k ≠ 4 ∧ k < 7 ∧ sl ≠ 0) ∨ (k ≠ 5 ∧ k ≠ 6 ∧ nl ≠ 0) ∨ (k ≠ 6 ∧ kl ≠ 0) then 9
  else if k = 6 ∧ (kl ≠ nl ∨ up = false) then 9
  else 0
theorem headErr_zero {deep : Nat} {k i : Int} {sl nl kl : Nat} {up : Bool} (h1 : ¬ ((k = 5 ∨ k = 6) ∧ deep = 16)) (h2 : ¬ 4096 < sl) (h3 : ¬ (1024 < nl ∨ 1024 < kl))
    (h4 : ¬ (k < 0 ∨ 11 < k ∨ (k ≠ 3 ∧ i ≠ 0) ∨ (k ≠ 4 ∧ k < 7 ∧ sl ≠ 0) ∨ (k ≠ 5 ∧ k ≠ 6 ∧ nl ≠ 0) ∨ (k ≠ 6 ∧ kl ≠ 0))) (h5 : ¬ (k = 6 ∧ (kl ≠ nl ∨ up = false))) : headErr deep k i sl nl kl up = 0 := by
  unfold headErr; rw [if_neg h1, if_neg h2, if_neg h3, if_neg h4, if_neg h5]
def firstE : List Int → Int
  | [] => 0
  | x :: r => if x = 0 then firstE r else x
def checkV : (n : Nat) → Nat → VT n → Int
  | 0, _, _ => 0
  | n + 1, deep, d =>
    if headErr deep (VN.k d) (VN.i d) (VN.s d).length (VN.l d).length (VN.ks d).length (risingK (VN.ks d)) = 0 then firstE ((VN.l d).map (checkV n (deep + 1)))
    else headErr deep (VN.k d) (VN.i d) (VN.s d).length (VN.l d).length (VN.ks d).length (risingK (VN.ks d))
theorem checkV_mk {n : Nat} (deep : Nat) (k i : Int) (s : List UInt8) (l : List (VT n)) (ks : List (List UInt8)) :
    checkV (n + 1) deep (⟨k, i, s, l, ks⟩ : VN (VT n)) = if headErr deep k i s.length l.length ks.length (risingK ks) = 0 then firstE (l.map (checkV n (deep + 1))) else headErr deep k i s.length l.length ks.length (risingK ks) := rfl
theorem checkV_head {n : Nat} {deep : Nat} {k i : Int} {s : List UInt8} {l : List (VT n)} {ks : List (List UInt8)} {e : Int} (h : headErr deep k i s.length l.length ks.length (risingK ks) = e) (he : e ≠ 0) :
    checkV (n + 1) deep (⟨k, i, s, l, ks⟩ : VN (VT n)) = e := by rw [checkV_mk, h, if_neg he]
theorem checkV_good {n : Nat} {deep : Nat} {k i : Int} {s : List UInt8} {l : List (VT n)} {ks : List (List UInt8)} (h : headErr deep k i s.length l.length ks.length (risingK ks) = 0) :
    checkV (n + 1) deep (⟨k, i, s, l, ks⟩ : VN (VT n)) = firstE (l.map (checkV n (deep + 1))) := by rw [checkV_mk, h, if_pos rfl]
theorem firstE_bad {l : List Int} {j : Nat} {x : Int} (hx : l[j]? = some x) (h0 : x ≠ 0) (hall : ∀ r, r < j → l[r]? = some 0) : firstE l = x := by
  induction l generalizing j with
  | nil => simp at hx
  | cons y l ih =>
    cases j with
    | zero => simp at hx; subst hx; simp [firstE, h0]
    | succ j =>
      have h1 := hall 0 (by omega)
      simp at h1
      subst h1
      simp only [firstE, if_pos]
      exact ih (by simpa using hx) fun r hr => by have := hall (r + 1) (by omega); simpa using this
theorem firstE_good {l : List Int} (hall : ∀ r, r < l.length → l[r]? = some 0) : firstE l = 0 := by
  induction l with
  | nil => rfl
  | cons y l ih =>
    have h1 := hall 0 (by simp)
    simp at h1
    subst h1
    simp only [firstE, if_pos]
    exact ih fun r hr => by have := hall (r + 1) (by simpa using hr); simpa using this
/-- Has a value no safe texts? -/
def plainV : (n : Nat) → VT n → Bool
  | 0, _ => true
  | n + 1, d => (VN.l d).all (plainV n) && decide (VN.k d < 7)
theorem plainV_mk {n : Nat} (k i : Int) (s : List UInt8) (l : List (VT n)) (ks : List (List UInt8)) : plainV (n + 1) (⟨k, i, s, l, ks⟩ : VN (VT n)) = (l.all (plainV n) && decide (k < 7)) := rfl
def sumBy {α : Type} (f : α → Nat) : List α → Nat
  | [] => 0
  | x :: l => f x + sumBy f l
theorem sumBy_mem {α : Type} (f : α → Nat) : ∀ (l : List α) (x : α), x ∈ l → f x ≤ sumBy f l := by
  intro l
  induction l with
  | nil => intro x h; cases h
  | cons y l ih =>
    intro x h
    simp only [sumBy]
    rcases List.mem_cons.1 h with rfl | h
    · omega
    · have := ih x h; omega
theorem sumBy_append {α : Type} (f : α → Nat) : ∀ (l r : List α), sumBy f (l ++ r) = sumBy f l + sumBy f r := by
  intro l
  induction l with
  | nil => intro r; simp [sumBy]
  | cons y l ih => intro r; simp only [List.cons_append, sumBy, ih]; omega
theorem sumBy_len {α : Type} (f : α → Nat) (h : ∀ x, 1 ≤ f x) : ∀ l : List α, l.length ≤ sumBy f l := by
  intro l
  induction l with
  | nil => simp [sumBy]
  | cons y l ih => have := h y; simp only [sumBy, List.length_cons]; omega
theorem sumBy_le {α : Type} {f g : α → Nat} : ∀ l : List α, (∀ x ∈ l, f x ≤ g x) → sumBy f l ≤ sumBy g l := by
  intro l
  induction l with
  | nil => intro _; simp [sumBy]
  | cons y l ih =>
    intro h
    have h1 := h y (List.mem_cons_self ..)
    have h2 := ih fun x hx => h x (List.mem_cons_of_mem _ hx)
    simp only [sumBy]; omega
theorem sumBy_map {α β : Type} (f : β → Nat) (g : α → β) : ∀ l : List α, sumBy f (l.map g) = sumBy (fun x => f (g x)) l := by
  intro l
  induction l with
  | nil => rfl
  | cons y l ih => simp only [List.map_cons, sumBy, ih]
theorem sumBy_take_drop {α : Type} (f : α → Nat) (l : List α) (i : Nat) : sumBy f (l.take i) + sumBy f (l.drop i) = sumBy f l := by
  rw [← sumBy_append, List.take_append_drop]
/-- How much a value holds. -/
def massV : (n : Nat) → VT n → Nat
  | 0, _ => 1
  | n + 1, d => 1 + (VN.s d).length + sumBy (fun k => k.length + 1) (VN.ks d) + sumBy (massV n) (VN.l d)
theorem massV_pos : ∀ n (d : VT n), 1 ≤ massV n d := by
  intro n d
  cases n with
  | zero => exact Nat.le_refl _
  | succ n => show 1 ≤ 1 + _ + _ + _; omega
theorem massV_succ {n : Nat} (d : VN (VT n)) : massV (n + 1) d = 1 + d.s.length + sumBy (fun k => k.length + 1) d.ks + sumBy (massV n) d.l := rfl
/-- All numbers in a value are numbers. -/
def NumV : (n : Nat) → VT n → Prop
  | 0, _ => True
  | n + 1, d => (-9223372036854775808 ≤ VN.i d ∧ VN.i d ≤ 9223372036854775807) ∧ ∀ x ∈ VN.l d, NumV n x
theorem small_of_mass : ∀ n (d : VT n), massV n d ≤ 1048576 → SmallV n d := by
  intro n
  induction n with
  | zero => intro d _; trivial
  | succ n ih =>
    intro d h
    have h : 1 + (VN.s d).length + sumBy (fun k => k.length + 1) (VN.ks d) + sumBy (massV n) (VN.l d) ≤ 1048576 := h
    have h1 := sumBy_len (massV n) (massV_pos n) (VN.l d)
    have h2 := sumBy_len (fun k : List UInt8 => k.length + 1) (fun x => Nat.le_add_left ..) (VN.ks d)
    refine ⟨by omega, by omega, by omega, ?_, ?_⟩
    · intro x hx
      have := sumBy_mem (fun k : List UInt8 => k.length + 1) (VN.ks d) x hx
      have : x.length + 1 ≤ _ := this
      omega
    · intro x hx
      have := sumBy_mem (massV n) (VN.l d) x hx
      exact ih x (by omega)
/-- Two lists, one by one. -/
theorem sumBy_zip {α β : Type} (f : α → Nat) (g : β → Nat) : ∀ (l : List α) (r : List β), l.length = r.length → (∀ (j : Nat) (x : α) (y : β), l[j]? = some x → r[j]? = some y → f x ≤ g y) → sumBy f l ≤ sumBy g r := by
  intro l
  induction l with
  | nil => intro r h _; simp [sumBy]
  | cons x l ih =>
    intro r h hj
    cases r with
    | nil => simp at h
    | cons y r =>
      have h1 := hj 0 x y rfl rfl
      have h2 := ih r (by simpa using h) fun j a b ha hb => hj (j + 1) a b (by simpa using ha) (by simpa using hb)
      simp only [sumBy]; omega
theorem firstE_each : ∀ (l : List Int), firstE l = 0 → ∀ x ∈ l, x = 0 := by
  intro l
  induction l with
  | nil => intro _ x hx; cases hx
  | cons y l ih =>
    intro h x hx
    simp only [firstE] at h
    split at h
    · rcases List.mem_cons.1 hx with rfl | hx
      · assumption
      · exact ih h x hx
    · exact absurd h (by assumption)
theorem check_parts {n deep : Nat} {k i : Int} {s : List UInt8} {l : List (VT n)} {ks : List (List UInt8)} (h : checkV (n + 1) deep (⟨k, i, s, l, ks⟩ : VN (VT n)) = 0) : headErr deep k i s.length l.length ks.length (risingK ks) = 0 ∧ ∀ x ∈ l, checkV n (deep + 1) x = 0 := by
  rw [checkV_mk] at h
  split at h
  · rename_i h1
    exact ⟨h1, fun x hx => firstE_each _ h _ (List.mem_map.2 ⟨x, hx, rfl⟩)⟩
  · rename_i h1; exact absurd h h1
theorem firstE_zero : ∀ (l : List Int), (∀ x ∈ l, x = 0) → firstE l = 0 := by
  intro l
  induction l with
  | nil => intro _; rfl
  | cons y l ih =>
    intro h
    simp only [firstE, h y (List.mem_cons_self ..), if_pos]
    exact ih fun x hx => h x (List.mem_cons_of_mem _ hx)
theorem headErr_less {deep deep' : Nat} {k i : Int} {sl nl kl : Nat} {up : Bool} (hd : deep' ≤ deep) (hd2 : deep ≤ 16) (h : headErr deep k i sl nl kl up = 0) : headErr deep' k i sl nl kl up = 0 := by
  unfold headErr at h ⊢
  split at h
  · cases h
  · rename_i h1
    rw [if_neg (fun h2 => h1 ⟨h2.1, by have := h2.2; omega⟩)]
    exact h
/-- What may be deep within may be higher up. -/
theorem check_less : ∀ (n deep deep' : Nat) (d : VT n), deep' ≤ deep → deep ≤ 16 → checkV n deep d = 0 → checkV n deep' d = 0 := by
  intro n
  induction n with
  | zero => intro _ _ _ _ _ _; rfl
  | succ n ih =>
    intro deep deep' d hd hd2 h
    obtain ⟨k, i, s, l, ks⟩ := d
    obtain ⟨h1, h2⟩ := check_parts h
    rw [checkV_good (headErr_less hd hd2 h1)]
    apply firstE_zero
    intro x hx
    obtain ⟨y, hy, rfl⟩ := List.mem_map.1 hx
    by_cases hl : deep = 16
    · -- a list so deep is empty
      have : l.length = 0 := by
        unfold headErr at h1
        split at h1
        · cases h1
        split at h1
        · cases h1
        split at h1
        · cases h1
        split at h1
        · cases h1
        · omega
      have : l = [] := List.length_eq_zero_iff.1 this
      subst this; cases hy
    · exact ih (deep + 1) (deep' + 1) y (by omega) (by omega) (h2 y hy)
theorem head_len {deep : Nat} {k i : Int} {sl nl kl : Nat} {up : Bool} (h : headErr deep k i sl nl kl up = 0) : sl ≤ 4096 := by
  unfold headErr at h
  split at h
  · cases h
  split at h
  · cases h
  · omega
end Go.Proofs.YtdnmgpidfjkiaaaDoor

namespace Go.Proofs.YtdnmgpidfjkiaaaDoor
set_option linter.unusedVariables false

theorem isDig_dig (n : Nat) (h : n < 10) : isDig (dig n) = true := by
  simp [isDig, dig_toNat n h]; omega
theorem valFrom_decs (u : Nat) : valFrom 0 (decs u) = u := by
  induction u using Nat.strongRecOn with
  | _ u ih =>
    by_cases h : u < 10
    · rw [decs_small u h, valFrom_cons, valFrom_nil, dig_toNat u h]; omega
    · rw [decs_big u h, valFrom_append, ih (u / 10) (by omega), valFrom_cons, valFrom_nil, dig_toNat _ (by omega)]; omega
theorem decs_ne (u : Nat) : decs u ≠ [] := by
  by_cases h : u < 10
  · rw [decs_small u h]; simp
  · rw [decs_big u h]; simp
theorem decs_all (u : Nat) : (decs u).all isDig = true := by
  induction u using Nat.strongRecOn with
  | _ u ih =>
    by_cases h : u < 10
    · rw [decs_small u h]; simp [isDig_dig u h]
    · rw [decs_big u h, List.all_append, ih (u / 10) (by omega)]; simp [isDig_dig (u % 10) (by omega)]
theorem decs_head (u : Nat) (h1 : 1 ≤ u) : (decs u).head? ≠ some 48 := by
  induction u using Nat.strongRecOn with
  | _ u ih =>
    by_cases h : u < 10
    · rw [decs_small u h]
      simp only [List.head?_cons, ne_eq, Option.some.injEq]
      intro e
      have := dig_toNat u h
      rw [e] at this
      have h48 : (48 : UInt8).toNat = 48 := rfl
      omega
    · rw [decs_big u h]
      have := ih (u / 10) (by omega) (by omega)
      cases hd : decs (u / 10) with
      | nil => exact absurd hd (decs_ne _)
      | cons c r => rw [hd] at this; simpa using this
theorem decs_head_dig (u : Nat) : (decs u).head? ≠ some 45 := by
  cases hd : decs u with
  | nil => exact absurd hd (decs_ne _)
  | cons c r =>
    have := decs_all u
    rw [hd] at this
    simp only [List.all_cons, Bool.and_eq_true] at this
    intro e
    simp at e
    subst e
    simp [isDig] at this
/-- The digits of what digits come to, the first one no 0. -/
theorem decs_valFrom (t : List UInt8) : t ≠ [] → t.all isDig = true → (t.head? = some 48 → t.length ≤ 1) → decs (valFrom 0 t) = t := by
  have key : ∀ (n : Nat) (t : List UInt8), t.length = n → t ≠ [] → t.all isDig = true → (t.head? = some 48 → t.length ≤ 1) → decs (valFrom 0 t) = t ∧ (2 ≤ t.length → 1 ≤ valFrom 0 t) ∧ (t.head? ≠ some 48 → 1 ≤ valFrom 0 t) := by
    intro n
    induction n with
    | zero => intro t h h2; exact absurd (List.eq_nil_of_length_eq_zero h) h2
    | succ n ih =>
      intro t hn hne hall hhead
      have e : t = t.dropLast ++ [t.getLast hne] := (List.dropLast_concat_getLast hne).symm
      generalize hc : t.getLast hne = c at e
      generalize hr : t.dropLast = r at e
      have hrl : r.length = n := by rw [← hr, List.length_dropLast]; omega
      clear hc hr
      subst e
      rw [List.all_append] at hall
      simp only [List.all_cons, List.all_nil, Bool.and_true, Bool.and_eq_true] at hall
      obtain ⟨h1, h2⟩ := hall
      have hc1 : 48 ≤ c.toNat ∧ c.toNat ≤ 57 := by simp [isDig] at h2; omega
      have hcd : dig (c.toNat - 48) = c := by
        apply UInt8.toNat_inj.1
        rw [dig_toNat _ (by omega)]; omega
      by_cases hr : r = []
      · subst hr
        rw [List.nil_append, valFrom_cons, valFrom_nil]
        refine ⟨?_, by simp, ?_⟩
        · rw [decs_small _ (by omega), show 0 * 10 + (c.toNat - 48) = c.toNat - 48 by omega, hcd]
        · intro h
          rcases Nat.lt_or_ge 48 c.toNat with h' | h'
          · omega
          · exfalso; apply h
            have : c = 48 := UInt8.toNat_inj.1 (by have h48 : (48 : UInt8).toNat = 48 := rfl; omega)
            rw [this]; rfl
      · have hh : (r ++ [c]).head? = r.head? := by cases r with | nil => exact absurd rfl hr | cons a b => rfl
        have hrne : r.head? ≠ some 48 := by
          intro h
          have := hhead (by rw [hh]; exact h)
          rw [List.length_append, List.length_singleton] at this
          have h2 := List.length_pos_iff.2 hr
          omega
        obtain ⟨i1, i2, i3⟩ := ih r hrl hr h1 (fun h => absurd h hrne)
        have hv := i3 hrne
        rw [valFrom_append, valFrom_cons, valFrom_nil]
        refine ⟨?_, fun _ => by omega, fun _ => by omega⟩
        rw [decs_big _ (by omega), show (valFrom 0 r * 10 + (c.toNat - 48)) / 10 = valFrom 0 r by omega, show (valFrom 0 r * 10 + (c.toNat - 48)) % 10 = c.toNat - 48 by omega, i1, hcd]
  intro h1 h2 h3
  exact (key _ t rfl h1 h2 h3).1

theorem cutDash_no (l : List UInt8) (h : l.head? ≠ some 45) : cutDash l = (l, false) := by
  unfold cutDash
  split
  · simp at h
  · rfl
theorem pParse_pInt (n : Int) (h0 : -9223372036854775808 ≤ n) (h1 : n ≤ 9223372036854775807) : pParse (pInt n) = (n, 0) := by
  unfold pParse pInt
  by_cases hn : n < 0
  · rw [if_pos hn]
    show pParseT (decs n.natAbs) true = _
    unfold pParseT
    rw [if_neg (decs_ne _), if_neg (by simp [decs_all]), if_neg (by intro h; exact decs_head _ (by omega) h.1), if_pos rfl, valFrom_decs, if_pos (by omega)]
    ext <;> simp; omega
  · rw [if_neg hn, cutDash_no _ (decs_head_dig _)]
    unfold pParseT
    have hz : ¬((decs n.natAbs).head? = some 48 ∧ (false = true ∨ 1 < (decs n.natAbs).length)) := by
      rintro ⟨h, h'⟩
      rcases Nat.eq_zero_or_pos n.natAbs with h2 | h2
      · rw [h2, decs_small 0 (by omega)] at h'; simp at h'
      · exact decs_head _ h2 h
    rw [if_neg (decs_ne _), if_neg (by simp [decs_all]), if_neg hz, if_neg (by simp), valFrom_decs, if_pos (by omega)]
    ext <;> simp; omega
theorem cutDash_back (l : List UInt8) : l = if (cutDash l).2 = true then 45 :: (cutDash l).1 else (cutDash l).1 := by
  unfold cutDash
  split
  · simp
  · simp
/-- What is told of a text as a number, and that its digits are the text. -/
theorem pParse_back (l : List UInt8) (h : (pParse l).2 = 0) : pInt (pParse l).1 = l := by
  have hb := cutDash_back l
  unfold pParse at h ⊢
  generalize (cutDash l).1 = t at *
  generalize (cutDash l).2 = b at *
  rw [hb]
  unfold pParseT at h ⊢
  by_cases h1 : t = []
  · rw [if_pos h1] at h; simp at h
  rw [if_neg h1] at h ⊢
  by_cases h2 : t.all isDig = true
  · rw [if_neg (by simp [h2])] at h ⊢
    by_cases h3 : t.head? = some 48 ∧ (b = true ∨ 1 < t.length)
    · rw [if_pos h3] at h; simp at h
    · rw [if_neg h3] at h ⊢
      have hd := decs_valFrom t h1 h2 (fun hh => by
        rcases Nat.lt_or_ge 1 t.length with h' | h'
        · exact absurd ⟨hh, .inr h'⟩ h3
        · omega)
      cases b with
      | true =>
        simp only [if_true] at h ⊢
        split at h
        · rename_i hv
          rw [if_pos hv]
          have hpos : 1 ≤ valFrom 0 t := by
            rcases Nat.eq_zero_or_pos (valFrom 0 t) with h0 | h0
            · rw [h0, decs_small 0 (by omega)] at hd
              exfalso; apply h3
              rw [← hd]
              exact ⟨rfl, .inl rfl⟩
            · exact h0
          unfold pInt
          rw [if_pos (by simp; omega)]
          simp [hd]
        · simp at h
      | false =>
        simp only [Bool.false_eq_true, if_false] at h ⊢
        split at h
        · rename_i hv
          rw [if_pos hv]
          unfold pInt
          rw [if_neg (by simp)]
          simp [hd]
        · simp at h
  · rw [if_pos (by simpa using h2)] at h; simp at h
theorem pParse_range (l : List UInt8) : -9223372036854775808 ≤ (pParse l).1 ∧ (pParse l).1 ≤ 9223372036854775807 ∧ 0 ≤ (pParse l).2 ∧ (pParse l).2 ≤ 255 := by
  unfold pParse pParseT
  repeat' split
  all_goals simp
  all_goals omega
end Go.Proofs.YtdnmgpidfjkiaaaDoor

namespace Go.Proofs.YtdnmgpidfjkiaaaDoor
set_option linter.unusedVariables false

/-- A text as a literal. -/
def quoteL (s : List UInt8) : List UInt8 := 34 :: (escR s ++ [34])
/-- Parts, one behind the other, with commas between; each behind its key. -/
def partsL (ks : Option (List (List UInt8))) : List (List UInt8) → List UInt8
  | [] => []
  | p :: r => (match ks with | some (k :: _) => quoteL k ++ [58] | _ => []) ++ p ++ (match r with | [] => [] | _ => [44]) ++ partsL (ks.map List.tail) r
/-- A value's literal. -/
def litR : (n : Nat) → VT n → List UInt8
  | 0, _ => []
  | n + 1, d =>
    if VN.k d = 0 then [110, 117, 108, 108]
    else if VN.k d = 1 then [102, 97, 108, 115, 101]
    else if VN.k d = 2 then [116, 114, 117, 101]
    else if VN.k d = 3 then (if VN.i d < 0 then 32 :: pInt (VN.i d) else pInt (VN.i d))
    else if VN.k d = 5 then 91 :: (partsL none ((VN.l d).map (litR n)) ++ [93])
    else if VN.k d = 6 then 123 :: (partsL (some (VN.ks d)) ((VN.l d).map (litR n)) ++ [125])
    else quoteL (VN.s d)
/-- What a reader tells: a thing and the rest, or a fault. -/
inductive Out (α : Type) where
  | ok (a : α) (r : List UInt8)
  | bad (e : Int)
/-- Behind a \u : four digits in small letters. -/
def halfR (r : List UInt8) : Option (Int × List UInt8) :=
  if r.length < 4 then none
  else if (pUnhex (r.take 4)).2 = 0 ∧ (r.take 4).map smallB = r.take 4 then some ((pUnhex (r.take 4)).1, r.drop 4) else none
/-- A string's rest, behind its first quote: its text, and what stands behind it. -/
def strR : Nat → List UInt8 → Option (List UInt8 × List UInt8)
  | 0, _ => none
  | f + 1, r =>
    match r with
    | [] => none
    | c :: t =>
      if c = 34 then some ([], t)
      else if [92, 117].isPrefixOf r then
        match halfR (r.drop 2) with
        | none => none
        | some (n, t1) =>
          if plainC n.toNat = false ∧ 0 < n ∧ (n < 56320 ∨ 57343 < n) then
            if 55296 ≤ n ∧ n < 56320 then
              if [92, 117].isPrefixOf t1 then
                match halfR (t1.drop 2) with
                | none => none
                | some (m, t2) => if 56320 ≤ m ∧ m ≤ 57343 then (strR f t2).map fun x => (encL (65536 + (n - 55296) * 1024 + m - 56320) ++ x.1, x.2) else none
              else none
            else (strR f t1).map fun x => (encL n ++ x.1, x.2)
          else none
      else if plainC c.toNat then (strR f t).map fun x => (c :: x.1, x.2) else none
def signD (c : UInt8) : Bool := ([45, 48, 49, 50, 51, 52, 53, 54, 55, 56, 57] : List UInt8).any (· == c)
/-- A number. -/
def digR (r : List UInt8) : Option (Int × List UInt8) :=
  let blank := [32].isPrefixOf r
  let r1 := if blank then r.drop 1 else r
  let t := r1.takeWhile signD
  if (pParse t).2 = 0 ∧ (blank = decide ((pParse t).1 < 0)) then some ((pParse t).1, r1.drop t.length) else none
/-- A key and its colon, in a record. -/
def keyR (rec_ : Bool) (r : List UInt8) : Option (List (List UInt8) × List UInt8) :=
  if rec_ then
    if [34].isPrefixOf r then
      match strR r.length (r.drop 1) with
      | none => none
      | some (k, t) => if [58].isPrefixOf t then some ([k], t.drop 1) else none
    else none
  else some ([], r)
/-- Parts, up to the end's octet. -/
def itemsR {α : Type} (rv : List UInt8 → Out α) (rec_ : Bool) (close : UInt8) : Nat → List UInt8 → Out (List (List UInt8) × List α)
  | 0, _ => .bad 33
  | f + 1, r =>
    match keyR rec_ r with
    | none => .bad 33
    | some (ks, r1) =>
      match rv r1 with
      | .bad e => .bad e
      | .ok x r2 =>
        if [close].isPrefixOf r2 then .ok (ks, [x]) (r2.drop 1)
        else if [44].isPrefixOf r2 then
          match itemsR rv rec_ close f (r2.drop 1) with
          | .bad e => .bad e
          | .ok y r3 => .ok (ks ++ y.1, x :: y.2) r3
        else .bad 33
/-- A value; many: what a list's or record's rest tells. -/
def headR {α : Type} (up : List (List UInt8) → Bool) (many : Bool → UInt8 → List UInt8 → Out (List (List UInt8) × List α)) (r : List UInt8) : Out (VN α) :=
  if [110, 117, 108, 108].isPrefixOf r then .ok ⟨0, 0, [], [], []⟩ (r.drop 4)
  else if [102, 97, 108, 115, 101].isPrefixOf r then .ok ⟨1, 0, [], [], []⟩ (r.drop 5)
  else if [116, 114, 117, 101].isPrefixOf r then .ok ⟨2, 0, [], [], []⟩ (r.drop 4)
  else if [34].isPrefixOf r then
    match strR r.length (r.drop 1) with
    | none => .bad 33
    | some (s, t) => .ok ⟨4, 0, s, [], []⟩ t
  else if [91].isPrefixOf r then
    match many false 93 (r.drop 1) with
    | .bad e => .bad e
    | .ok x t => .ok ⟨5, 0, [], x.2, x.1⟩ t
  else if [123].isPrefixOf r then
    match many true 125 (r.drop 1) with
    | .bad e => .bad e
    | .ok x t => if up x.1 then .ok ⟨6, 0, [], x.2, x.1⟩ t else .bad 33
  else
    match digR r with
    | none => .bad 33
    | some (n, t) => .ok ⟨3, n, [], [], []⟩ t
def manyR {α : Type} (rv : List UInt8 → Out α) (rec_ : Bool) (close : UInt8) (r : List UInt8) : Out (List (List UInt8) × List α) :=
  if [close].isPrefixOf r then .ok ([], []) (r.drop 1) else itemsR rv rec_ close (r.length + 1) r
def readV (up : List (List UInt8) → Bool) : (left : Nat) → List UInt8 → Out (VN (VT left))
  | 0, r => headR up (fun _ _ _ => .bad 42) r
  | l + 1, r => headR (α := VT (l + 1)) up (manyR (α := VT (l + 1)) (readV up l)) r
/-- What literal.Read tells of a text. -/
def readR (up : List (List UInt8) → Bool) (s : List UInt8) : Out (VN (VT 16)) :=
  match readV up 16 s with
  | .bad e => .bad e
  | .ok v r => if r = [] then .ok v [] else .bad 33
end Go.Proofs.YtdnmgpidfjkiaaaDoor

namespace Go.Proofs.YtdnmgpidfjkiaaaDoor
set_option linter.unusedVariables false
set_option linter.unusedSimpArgs false

theorem decR_valL (b : UInt8) (r : List UInt8) (n v : Nat) (hn : sizeR b = n) (h0 : n ≠ 0) (h1 : n ≤ r.length + 1) (hc : (r.take (n - 1)).all contB = true) (hv : accR (b.toNat % maskR n) (r.take (n - 1)) = v) :
    decR (b :: r) = if badC (v : Nat) = false ∧ encR v = b :: r.take (n - 1) then ((v : Int), n) else (-1, 1) := by
  rw [decR_cons]
  simp only [hn, hv]
  rw [if_neg (by omega), if_neg (by rw [hc]; simp)]
theorem contB_u8 (n : Nat) (h : n < 64) : contB (u8 (128 + n)) = true := by
  unfold contB; rw [u8_toNat (by omega)]; simp; omega
/-- A character that was written is read. -/
theorem dec_enc (n : Nat) (hb : badC (n : Int) = false) (s : List UInt8) : decR (encR n ++ s) = ((n : Int), (encR n).length) := by
  have hlt : n < 1114112 := by
    simp [badC] at hb; omega
  by_cases h1 : n < 128
  · have he : encR n = [u8 n] := by unfold encR; rw [if_pos h1]
    have ht : (u8 n).toNat = n := u8_toNat (by omega)
    rw [he, List.singleton_append, decR_valL (u8 n) s 1 n (by unfold sizeR; rw [ht, if_pos h1]) (by omega) (by omega) (by simp) (by simp [accR, maskR, ht]; omega), if_pos ⟨hb, by rw [he]; rfl⟩]
    rfl
  by_cases h2 : n < 2048
  · have he : encR n = [u8 (192 + n / 64), u8 (128 + n % 64)] := by unfold encR; rw [if_neg h1, if_pos h2]
    have ht : (u8 (192 + n / 64)).toNat = 192 + n / 64 := u8_toNat (by omega)
    have ht1 : (u8 (128 + n % 64)).toNat = 128 + n % 64 := u8_toNat (by omega)
    rw [he]
    show decR (u8 (192 + n / 64) :: ([u8 (128 + n % 64)] ++ s)) = _
    rw [decR_valL _ _ 2 n (by unfold sizeR; rw [ht, if_neg (by omega), if_pos (by omega)]) (by omega) (by simp) (by simp [contB_u8 (n % 64) (by omega)]) (by simp [accR, maskR, ht, ht1]; omega), if_pos ⟨hb, by rw [he]; rfl⟩]
    rfl
  by_cases h3 : n < 65536
  · have he : encR n = [u8 (224 + n / 4096), u8 (128 + n / 64 % 64), u8 (128 + n % 64)] := by unfold encR; rw [if_neg h1, if_neg h2, if_pos h3]
    have ht : (u8 (224 + n / 4096)).toNat = 224 + n / 4096 := u8_toNat (by omega)
    have ht1 : (u8 (128 + n / 64 % 64)).toNat = 128 + n / 64 % 64 := u8_toNat (by omega)
    have ht2 : (u8 (128 + n % 64)).toNat = 128 + n % 64 := u8_toNat (by omega)
    rw [he]
    show decR (u8 (224 + n / 4096) :: ([u8 (128 + n / 64 % 64), u8 (128 + n % 64)] ++ s)) = _
    rw [decR_valL _ _ 3 n (by unfold sizeR; rw [ht, if_neg (by omega), if_neg (by omega), if_pos (by omega)]) (by omega) (by simp) (by simp [contB_u8 (n % 64) (by omega), contB_u8 (n / 64 % 64) (by omega)]) (by simp [accR, maskR, ht, ht1, ht2]; omega), if_pos ⟨hb, by rw [he]; rfl⟩]
    rfl
  · have he : encR n = [u8 (240 + n / 262144), u8 (128 + n / 4096 % 64), u8 (128 + n / 64 % 64), u8 (128 + n % 64)] := by unfold encR; rw [if_neg h1, if_neg h2, if_neg h3]
    have ht : (u8 (240 + n / 262144)).toNat = 240 + n / 262144 := u8_toNat (by omega)
    have ht0 : (u8 (128 + n / 4096 % 64)).toNat = 128 + n / 4096 % 64 := u8_toNat (by omega)
    have ht1 : (u8 (128 + n / 64 % 64)).toNat = 128 + n / 64 % 64 := u8_toNat (by omega)
    have ht2 : (u8 (128 + n % 64)).toNat = 128 + n % 64 := u8_toNat (by omega)
    rw [he]
    show decR (u8 (240 + n / 262144) :: ([u8 (128 + n / 4096 % 64), u8 (128 + n / 64 % 64), u8 (128 + n % 64)] ++ s)) = _
    rw [decR_valL _ _ 4 n (by unfold sizeR; rw [ht, if_neg (by omega), if_neg (by omega), if_neg (by omega), if_pos (by omega)]) (by omega) (by simp) (by simp [contB_u8 (n % 64) (by omega), contB_u8 (n / 64 % 64) (by omega), contB_u8 (n / 4096 % 64) (by omega)]) (by simp [accR, maskR, ht, ht0, ht1, ht2]; omega), if_pos ⟨hb, by rw [he]; rfl⟩]
    rfl
theorem chars_enc (c : Int) (hc : 0 < c) (hb : badC c = false) (s : List UInt8) : charsR (encL c ++ s) = c :: charsR s := by
  have h0 : 0 ≤ c := by omega
  have hn : ((c.toNat : Nat) : Int) = c := Int.toNat_of_nonneg h0
  have he : encL c = encR c.toNat := by unfold encL; rw [hb]; rfl
  have hne : encL c ++ s ≠ [] := by
    have := (encR_len c.toNat).1
    rw [he]; intro h
    have h2 := List.append_eq_nil_iff.1 h
    rw [h2.1] at this; simp at this
  rw [charsR_cons _ hne, he, dec_enc c.toNat (by rw [hn]; exact hb) s, hn]
  simp only [List.drop_left]
  have hf : fixC c = c := by unfold fixC; rw [if_neg (by omega)]
  rw [hf]
theorem esc_enc (c : Int) (hc : 0 < c) (hb : badC c = false) (s : List UInt8) : escR (encL c ++ s) = quoteI c ++ escR s := by
  unfold escR; rw [chars_enc c hc hb s, List.flatMap_cons]
theorem hexd_back (c : UInt8) (h : isHex c = true) (hs : smallB c = c) : hexd (hexV c).toNat = c := by
  have := allBytes (fun c => !(isHex c) || !(smallB c == c) || hexd (hexV c).toNat == c) (by decide +kernel) c
  simp [h, hs] at this
  exact this
theorem four_of {r : List UInt8} (h : ¬ r.length < 4) : ∃ a b c d t, r = a :: b :: c :: d :: t := by
  match r, h with
  | [], h => simp at h
  | [_], h => simp at h
  | [_, _], h => simp at h
  | [_, _, _], h => simp at h
  | a :: b :: c :: d :: t, _ => exact ⟨a, b, c, d, t, rfl⟩
theorem half_back {r t : List UInt8} {n : Int} (h : halfR r = some (n, t)) : 0 ≤ n ∧ n < 65536 ∧ r = pHex n 4 ++ t := by
  unfold halfR at h
  split at h
  · cases h
  rename_i hl
  split at h
  · rename_i hc
    obtain ⟨h1, h2⟩ := hc
    injection h with h
    injection h with h3 h4
    obtain ⟨a, b, c, d, r', rfl⟩ := four_of hl
    simp only [List.take_succ_cons, List.take_zero, List.drop_succ_cons, List.drop_zero] at h1 h2 h3 h4
    subst h4
    have hx : ([a, b, c, d] : List UInt8).all isHex = true := by
      unfold pUnhex at h1
      rw [if_neg (by simp), if_neg (by simp)] at h1
      split at h1
      · assumption
      · simp at h1
    have hn : n = (hexFrom 0 [a, b, c, d] : Int) := by
      rw [← h3]; unfold pUnhex
      rw [if_neg (by simp), if_neg (by simp), if_pos hx]
    simp only [List.all_cons, List.all_nil, Bool.and_true, Bool.and_eq_true] at hx
    simp only [List.map_cons, List.map_nil, List.cons.injEq, and_true] at h2
    obtain ⟨xa, xb, xc, xd⟩ := hx
    obtain ⟨sa, sb, sc, sd⟩ := h2
    have ra := hexV_range a; have rb := hexV_range b; have rc := hexV_range c; have rd := hexV_range d
    have pa := hexd_back a xa sa; have pb := hexd_back b xb sb; have pc := hexd_back c xc sc; have pd := hexd_back d xd sd
    have ha : 0 ≤ hexV a := of_decide_eq_true xa
    have hb : 0 ≤ hexV b := of_decide_eq_true xb
    have hc : 0 ≤ hexV c := of_decide_eq_true xc
    have hd : 0 ≤ hexV d := of_decide_eq_true xd
    obtain ⟨va, ea⟩ : ∃ v : Nat, (hexV a).toNat = v := ⟨_, rfl⟩
    obtain ⟨vb, eb⟩ : ∃ v : Nat, (hexV b).toNat = v := ⟨_, rfl⟩
    obtain ⟨vc, ec⟩ : ∃ v : Nat, (hexV c).toNat = v := ⟨_, rfl⟩
    obtain ⟨vd, ed⟩ : ∃ v : Nat, (hexV d).toNat = v := ⟨_, rfl⟩
    have hf : hexFrom 0 [a, b, c, d] = ((va * 16 + vb) * 16 + vc) * 16 + vd := by simp [hexFrom, ea, eb, ec, ed]
    rw [ea] at pa; rw [eb] at pb; rw [ec] at pc; rw [ed] at pd
    rw [hf] at hn
    have l1 : va < 16 := by omega
    have l2 : vb < 16 := by omega
    have l3 : vc < 16 := by omega
    have l4 : vd < 16 := by omega
    obtain ⟨N, hN⟩ : ∃ N : Nat, ((va * 16 + vb) * 16 + vc) * 16 + vd = N := ⟨_, rfl⟩
    rw [hN] at hn
    subst hn
    refine ⟨by omega, by omega, ?_⟩
    rw [pHex4 N (by omega)]
    have q1 : N / 16 ^ 3 % 16 = va := by rw [show (16 : Nat) ^ 3 = 4096 from rfl]; omega
    have q2 : N / 16 ^ 2 % 16 = vb := by rw [show (16 : Nat) ^ 2 = 256 from rfl]; omega
    have q3 : N / 16 ^ 1 % 16 = vc := by rw [show (16 : Nat) ^ 1 = 16 from rfl]; omega
    have q4 : N / 16 ^ 0 % 16 = vd := by rw [show (16 : Nat) ^ 0 = 1 from rfl]; omega
    simp only [hexs, q1, q2, q3, q4, pa, pb, pc, pd, List.cons_append, List.nil_append]
  · cases h
theorem two_pre {a b : UInt8} {r : List UInt8} (h : [a, b].isPrefixOf r = true) : r = a :: b :: r.drop 2 := by
  obtain ⟨t, rfl⟩ := List.isPrefixOf_iff_prefix.1 h
  rfl
theorem one_pre {a : UInt8} {r : List UInt8} (h : [a].isPrefixOf r = true) : r = a :: r.drop 1 := by
  obtain ⟨t, rfl⟩ := List.isPrefixOf_iff_prefix.1 h
  rfl
theorem plainC_small {c : Nat} (h : plainC c = true) : c < 128 := (plainC_octet c h).2.2.1
theorem not_plain_great {c : Nat} (h : 128 ≤ c) : plainC c = false := by unfold plainC; simp; omega
/-- A string's rest is the text that was read, escaped, and the quote. -/
theorem str_back : ∀ (f : Nat) (r s t : List UInt8), strR f r = some (s, t) → r = escR s ++ 34 :: t := by
  intro f
  induction f with
  | zero => intro r s t h; cases h
  | succ f ih =>
    intro r s t h
    match r with
    | [] => simp [strR] at h
    | c :: r' =>
      simp only [strR] at h
      split at h
      · rename_i hc
        injection h with h
        injection h with h1 h2
        subst h1; subst h2; subst hc
        simp [escR, charsR_nil]
      split at h
      · rename_i hp
        have hr := two_pre hp
        rw [hr]
        split at h
        · cases h
        · rename_i n t1 hh
          obtain ⟨n0, n1, hd⟩ := half_back hh
          rw [hd]
          split at h
          · rename_i hg
            obtain ⟨g1, g2, g3⟩ := hg
            split at h
            · rename_i hs
              split at h
              · rename_i hp2
                have hr2 := two_pre hp2
                split at h
                · cases h
                · rename_i m t2 hh2
                  obtain ⟨m0, m1, hd2⟩ := half_back hh2
                  split at h
                  · rename_i hm
                    obtain ⟨x, hx, he⟩ := Option.map_eq_some_iff.1 h
                    obtain ⟨xs, xt⟩ := x
                    injection he with he1 he2
                    simp only at he1 he2
                    subst he2
                    have hi := ih _ _ _ hx
                    rw [← he1, esc_enc _ (by omega) (by simp [badC]; omega), hr2, hd2, hi]
                    obtain ⟨N, rfl⟩ : ∃ N : Nat, n = (N : Int) := ⟨n.toNat, by omega⟩
                    obtain ⟨M, rfl⟩ : ∃ M : Nat, m = (M : Int) := ⟨m.toNat, by omega⟩
                    obtain ⟨X, hX⟩ : ∃ X : Nat, (65536 + ((N : Int) - 55296) * 1024 + (M : Int) - 56320) = (X : Int) := ⟨(65536 + ((N : Int) - 55296) * 1024 + (M : Int) - 56320).toNat, by omega⟩
                    have q1 : 55296 + (X - 65536) / 1024 = N := by omega
                    have q2 : 56320 + (X - 65536) % 1024 = M := by omega
                    have hq : quoteI (X : Int) = uniR N ++ uniR M := by
                      unfold quoteI quoteC
                      rw [show ((X : Int)).toNat = X from rfl, not_plain_great (by omega), if_neg (by simp), if_pos (by omega), q1, q2]
                    rw [hX, hq]
                    simp [uniR, List.append_assoc]
                  · cases h
              · cases h
            · rename_i hs
              obtain ⟨x, hx, he⟩ := Option.map_eq_some_iff.1 h
              obtain ⟨xs, xt⟩ := x
              injection he with he1 he2
              simp only at he1 he2
              subst he2
              have hi := ih _ _ _ hx
              obtain ⟨N, rfl⟩ : ∃ N : Nat, n = (N : Int) := ⟨n.toNat, by omega⟩
              have hq : quoteI (N : Int) = uniR N := by
                unfold quoteI quoteC
                rw [show ((N : Int)).toNat = N from rfl] at *
                rw [g1, if_neg (by simp), if_neg (by omega)]
              rw [← he1, esc_enc _ g2 (by simp [badC]; omega), hi, hq]
              simp [uniR, List.append_assoc]
          · cases h
      · split at h
        · rename_i hpl
          obtain ⟨x, hx, he⟩ := Option.map_eq_some_iff.1 h
          obtain ⟨xs, xt⟩ := x
          injection he with he1 he2
          simp only at he1 he2
          subst he2
          have hi := ih _ _ _ hx
          obtain ⟨p1, p2, p3, p4, _⟩ := plainC_octet c.toNat hpl
          have hu : u8 c.toNat = c := by unfold u8; simp
          have hpos : 0 < c.toNat := by
            rcases Nat.eq_zero_or_pos c.toNat with h0 | h0
            · rw [h0] at hpl; exact absurd hpl (by decide)
            · exact h0
          have hb : badC (c.toNat : Int) = false := by simp [badC]; omega
          have hec : encL (c.toNat : Int) = [c] := by
            unfold encL; rw [hb]; simp only [Bool.false_eq_true, if_false]
            rw [show ((c.toNat : Int)).toNat = c.toNat from rfl, p2, hu]
          have := esc_enc (c.toNat : Int) (by omega) hb xs
          rw [hec] at this
          rw [← he1, show c :: xs = [c] ++ xs from rfl, this, hi]
          unfold quoteI
          rw [show ((c.toNat : Int)).toNat = c.toNat from rfl, p1, hu]
          rfl
        · cases h
end Go.Proofs.YtdnmgpidfjkiaaaDoor

namespace Go.Proofs.YtdnmgpidfjkiaaaDoor
set_option linter.unusedVariables false
set_option linter.unusedSimpArgs false

def plainL : (n : Nat) → VT n → Bool
  | 0, _ => true
  | n + 1, d => (VN.l d).all (plainL n) && decide (VN.k d < 7)
theorem takeWhile_cut (p : UInt8 → Bool) (l : List UInt8) : l = l.takeWhile p ++ l.drop (l.takeWhile p).length := by
  induction l with
  | nil => rfl
  | cons c l ih =>
    by_cases h : p c
    · simp only [List.takeWhile_cons, h, if_true, List.length_cons, List.drop_succ_cons, List.cons_append]
      rw [← ih]
    · simp [List.takeWhile_cons, h]
/-- A number that is read. -/
theorem dig_back {r t : List UInt8} {n : Int} (h : digR r = some (n, t)) : r = (if n < 0 then 32 :: pInt n else pInt n) ++ t := by
  have main : ∀ (b : Bool) (r1 : List UInt8), (if (pParse (r1.takeWhile signD)).2 = 0 ∧ (b = decide ((pParse (r1.takeWhile signD)).1 < 0)) then some ((pParse (r1.takeWhile signD)).1, r1.drop (r1.takeWhile signD).length) else none) = some (n, t) → r1 = pInt n ++ t ∧ b = decide (n < 0) := by
    intro b r1 h
    split at h
    · rename_i hc
      obtain ⟨h1, h2⟩ := hc
      injection h with h
      injection h with h3 h4
      have hb := pParse_back _ h1
      have hcut := takeWhile_cut signD r1
      rw [h4, ← hb, h3] at hcut
      rw [h3] at h2
      exact ⟨hcut, h2⟩
    · cases h
  unfold digR at h
  by_cases hp : [32].isPrefixOf r = true
  · simp only [hp, if_true] at h
    obtain ⟨h1, h2⟩ := main true _ h
    rw [if_pos (of_decide_eq_true h2.symm)]
    conv => lhs; rw [one_pre hp, h1]
    rfl
  · have hp' : [32].isPrefixOf r = false := Bool.eq_false_iff.2 hp
    simp only [hp', Bool.false_eq_true, if_false] at h
    obtain ⟨h1, h2⟩ := main false _ h
    rw [if_neg (of_decide_eq_false h2.symm)]
    exact h1
theorem key_back {rec_ : Bool} {r r1 : List UInt8} {ks : List (List UInt8)} (h : keyR rec_ r = some (ks, r1)) : (rec_ = true ∧ ∃ k, ks = [k] ∧ r = quoteL k ++ 58 :: r1) ∨ (rec_ = false ∧ ks = [] ∧ r = r1) := by
  unfold keyR at h
  split at h
  · rename_i hr
    split at h
    · rename_i hp
      split at h
      · cases h
      · rename_i k t hs
        split at h
        · rename_i hc
          injection h with h
          injection h with h1 h2
          refine .inl ⟨hr, k, h1.symm, ?_⟩
          rw [one_pre hp, str_back _ _ _ _ hs, one_pre hc, h2]
          simp [quoteL]
        · cases h
    · cases h
  · rename_i hr
    injection h with h
    injection h with h1 h2
    exact .inr ⟨by simpa using hr, h1.symm, h2⟩
theorem items_back {α : Type} {rv : List UInt8 → Out α} {rec_ : Bool} {close : UInt8} {P : α → List UInt8} (hrv : ∀ r x t, rv r = .ok x t → r = P x ++ t) :
    ∀ (f : Nat) (r : List UInt8) (y : List (List UInt8) × List α) (t : List UInt8), itemsR rv rec_ close f r = .ok y t →
      r = partsL (if rec_ then some y.1 else none) (y.2.map P) ++ close :: t ∧ y.2 ≠ [] ∧ (rec_ = true → y.1.length = y.2.length) ∧ (rec_ = false → y.1 = []) := by
  intro f
  induction f with
  | zero => intro r y t h; cases h
  | succ f ih =>
    intro r y t h
    simp only [itemsR] at h
    split at h
    · cases h
    rename_i ks r1 hk
    split at h
    · cases h
    rename_i x r2 hx
    have hxr := hrv _ _ _ hx
    have hkey := key_back hk
    split at h
    · rename_i hc
      injection h with h1 h2
      subst h1; subst h2
      refine ⟨?_, by simp, ?_, ?_⟩
      · rcases hkey with ⟨rfl, k, rfl, hr⟩ | ⟨rfl, rfl, hr⟩
        · rw [hr, hxr, one_pre hc]; simp [partsL]
        · rw [hr, hxr, one_pre hc]; simp [partsL]
      · rintro rfl
        rcases hkey with ⟨_, k, rfl, _⟩ | ⟨h, _⟩
        · rfl
        · cases h
      · rintro rfl
        rcases hkey with ⟨h, _⟩ | ⟨_, h, _⟩
        · cases h
        · exact h
    · split at h
      · rename_i hc
        split at h
        · cases h
        rename_i y2 r3 hi
        injection h with h1 h2
        subst h1; subst h2
        obtain ⟨g1, g2, g3, g4⟩ := ih _ _ _ hi
        have hne : ∃ z zs, y2.2.map P = z :: zs := by
          cases hh : y2.2 with
          | nil => exact absurd hh g2
          | cons z zs => exact ⟨_, _, rfl⟩
        obtain ⟨z, zs, hz⟩ := hne
        refine ⟨?_, by simp, ?_, ?_⟩
        · rcases hkey with ⟨rfl, k, rfl, hr⟩ | ⟨rfl, rfl, hr⟩
          · simp only [if_true] at g1
            rw [hr, hxr, one_pre hc, g1]
            simp only [if_true, List.map_cons, hz, List.singleton_append]
            conv => rhs; unfold partsL
            simp [hz]
          · simp only [Bool.false_eq_true, if_false] at g1
            rw [hr, hxr, one_pre hc, g1]
            simp only [Bool.false_eq_true, if_false, List.map_cons, hz, List.nil_append]
            conv => rhs; unfold partsL
            simp [hz]
        · rintro rfl
          rcases hkey with ⟨_, k, rfl, _⟩ | ⟨h, _⟩
          · simp [g3 rfl]
          · cases h
        · rintro rfl
          rcases hkey with ⟨h, _⟩ | ⟨_, h, _⟩
          · cases h
          · simp [h, g4 rfl]
      · cases h
theorem lit_mk {n : Nat} (k i : Int) (s : List UInt8) (l : List (VT n)) (ks : List (List UInt8)) : litR (n + 1) (⟨k, i, s, l, ks⟩ : VN (VT n)) =
    if k = 0 then [110, 117, 108, 108] else if k = 1 then [102, 97, 108, 115, 101] else if k = 2 then [116, 114, 117, 101] else if k = 3 then (if i < 0 then 32 :: pInt i else pInt i)
    else if k = 5 then 91 :: (partsL none (l.map (litR n)) ++ [93]) else if k = 6 then 123 :: (partsL (some ks) (l.map (litR n)) ++ [125]) else quoteL s := rfl
theorem pre_of {p r : List UInt8} (h : p.isPrefixOf r = true) : r = p ++ r.drop p.length := by
  obtain ⟨t, rfl⟩ := List.isPrefixOf_iff_prefix.1 h
  simp
/-- What is told of a value's head. -/
theorem head_back {n : Nat} {up : List (List UInt8) → Bool} {many : Bool → UInt8 → List UInt8 → Out (List (List UInt8) × List (VT n))}
    (hm : ∀ b c r y t, many b c r = .ok y t → r = partsL (if b then some y.1 else none) (y.2.map (litR n)) ++ c :: t ∧ (b = true → y.1.length = y.2.length) ∧ (b = false → y.1 = []) ∧ ∀ x ∈ y.2, plainL n x = true)
    {r t : List UInt8} {v : VN (VT n)} (h : headR up many r = .ok v t) : r = litR (n + 1) v ++ t ∧ plainL (n + 1) v = true := by
  have hp : ∀ k i s (l : List (VT n)) ks, plainL (n + 1) (⟨k, i, s, l, ks⟩ : VN (VT n)) = (l.all (plainL n) && decide (k < 7)) := fun _ _ _ _ _ => rfl
  unfold headR at h
  split at h
  · rename_i h1; injection h with h2 h3; subst h2; subst h3; exact ⟨pre_of h1, by rw [hp]; rfl⟩
  split at h
  · rename_i h1; injection h with h2 h3; subst h2; subst h3; exact ⟨pre_of h1, by rw [hp]; rfl⟩
  split at h
  · rename_i h1; injection h with h2 h3; subst h2; subst h3; exact ⟨pre_of h1, by rw [hp]; rfl⟩
  split at h
  · rename_i h1
    split at h
    · cases h
    · rename_i s t' hs
      injection h with h2 h3; subst h2; subst h3
      refine ⟨?_, by rw [hp]; rfl⟩
      rw [one_pre h1, str_back _ _ _ _ hs, lit_mk]
      simp [quoteL]
  split at h
  · rename_i h1
    split at h
    · cases h
    · rename_i y t' hs
      injection h with h2 h3; subst h2; subst h3
      obtain ⟨g1, _, g3, g4⟩ := hm _ _ _ _ _ hs
      refine ⟨?_, by rw [hp, List.all_eq_true.2 g4]; rfl⟩
      rw [one_pre h1, g1, lit_mk]
      simp
  split at h
  · rename_i h1
    split at h
    · cases h
    · rename_i y t' hs
      split at h
      · injection h with h2 h3; subst h2; subst h3
        obtain ⟨g1, _, g3, g4⟩ := hm _ _ _ _ _ hs
        refine ⟨?_, by rw [hp, List.all_eq_true.2 g4]; rfl⟩
        rw [one_pre h1, g1, lit_mk]
        simp
      · cases h
  split at h
  · cases h
  · rename_i m t' hs
    injection h with h2 h3; subst h2; subst h3
    refine ⟨?_, by rw [hp]; rfl⟩
    rw [lit_mk]
    simp only [show ¬ (3 : Int) = 0 by decide, show ¬ (3 : Int) = 1 by decide, show ¬ (3 : Int) = 2 by decide, if_false, if_true]
    exact dig_back hs
theorem items_each {α : Type} {rv : List UInt8 → Out α} {rec_ : Bool} {close : UInt8} {Q : α → Prop} (hrv : ∀ r x t, rv r = .ok x t → Q x) :
    ∀ (f : Nat) (r : List UInt8) (y : List (List UInt8) × List α) (t : List UInt8), itemsR rv rec_ close f r = .ok y t → ∀ x ∈ y.2, Q x := by
  intro f
  induction f with
  | zero => intro r y t h; cases h
  | succ f ih =>
    intro r y t h
    simp only [itemsR] at h
    split at h
    · cases h
    split at h
    · cases h
    rename_i x r2 hx
    split at h
    · injection h with h1 h2
      subst h1
      intro z hz
      obtain rfl : z = x := by simpa using hz
      exact hrv _ _ _ hx
    · split at h
      · split at h
        · cases h
        rename_i y2 r3 hi
        injection h with h1 h2
        subst h1
        intro z hz
        rcases List.mem_cons.1 hz with rfl | hz
        · exact hrv _ _ _ hx
        · exact ih _ _ _ hi z hz
      · cases h
theorem many_back {n : Nat} {rv : List UInt8 → Out (VT n)} (hrv : ∀ r x t, rv r = .ok x t → r = litR n x ++ t ∧ plainL n x = true) (b : Bool) (c : UInt8) (r : List UInt8) (y : List (List UInt8) × List (VT n)) (t : List UInt8) (h : manyR rv b c r = .ok y t) :
    r = partsL (if b then some y.1 else none) (y.2.map (litR n)) ++ c :: t ∧ (b = true → y.1.length = y.2.length) ∧ (b = false → y.1 = []) ∧ ∀ x ∈ y.2, plainL n x = true := by
  unfold manyR at h
  split at h
  · rename_i h1
    injection h with h2 h3
    subst h2; subst h3
    exact ⟨by rw [one_pre h1]; simp [partsL], fun _ => rfl, fun _ => rfl, fun x hx => by cases hx⟩
  · obtain ⟨g1, _, g3, g4⟩ := items_back (P := litR n) (fun r x t h => (hrv r x t h).1) _ _ _ _ h
    exact ⟨g1, g3, g4, items_each (Q := fun x => plainL n x = true) (fun r x t h => (hrv r x t h).2) _ _ _ _ h⟩
/-- What is read is a plain value of which the text is the literal. -/
theorem readV_back (up : List (List UInt8) → Bool) : ∀ (left : Nat) (r t : List UInt8) (v : VN (VT left)), readV up left r = .ok v t → r = litR (left + 1) v ++ t ∧ plainL (left + 1) v = true := by
  intro left
  induction left with
  | zero => intro r t v h; exact head_back (n := 0) (fun b c r y t h => by cases h) h
  | succ l ih => intro r t v h; exact head_back (n := l + 1) (fun b c r y t h => many_back (n := l + 1) (fun r x t h => ih r t x h) b c r y t h) h
theorem readR_back (up : List (List UInt8) → Bool) (s t : List UInt8) (v : VN (VT 16)) (h : readR up s = .ok v t) : s = litR 17 v ∧ plainL 17 v = true := by
  unfold readR at h
  split at h
  · cases h
  · rename_i x r hx
    split at h
    · rename_i hr
      injection h with h1 h2
      subst h1; subst hr
      have := readV_back up 16 s [] x hx
      rw [List.append_nil] at this
      exact this
    · cases h
end Go.Proofs.YtdnmgpidfjkiaaaDoor

namespace Go.Proofs.YtdnmgpidfjkiaaaDoor
set_option linter.unusedVariables false
set_option linter.unusedSimpArgs false

theorem half_len {r t : List UInt8} {n : Int} (h : halfR r = some (n, t)) : t.length + 4 ≤ r.length := by
  obtain ⟨_, _, h3⟩ := half_back h
  rw [h3, List.length_append, pHex4_len]; omega
theorem strR_len : ∀ (f : Nat) (r x t : List UInt8), strR f r = some (x, t) → x.length + 1 + t.length ≤ r.length := by
  intro f
  induction f with
  | zero => intro r x t h; simp [strR] at h
  | succ f ih =>
    intro r x t h
    cases r with
    | nil => simp [strR] at h
    | cons c r =>
      simp only [strR] at h
      split at h
      · simp at h; obtain ⟨rfl, rfl⟩ := h; simp; omega
      split at h
      · rename_i hp
        have h2 : 2 ≤ (c :: r).length := (List.isPrefixOf_iff_prefix.1 hp).length_le
        split at h
        · exact absurd h (by simp)
        · rename_i n t1 hh
          have h3 := half_len hh
          split at h
          · split at h
            · split at h
              · rename_i hp2
                have h4 : 2 ≤ t1.length := (List.isPrefixOf_iff_prefix.1 hp2).length_le
                split at h
                · exact absurd h (by simp)
                · rename_i m t2 hh2
                  have h5 := half_len hh2
                  split at h
                  · obtain ⟨⟨x', t'⟩, hx, he⟩ := Option.map_eq_some_iff.1 h
                    simp at he
                    obtain ⟨rfl, rfl⟩ := he
                    have := ih _ _ _ hx
                    have h6 := encL_len (65536 + (n - 55296) * 1024 + m - 56320)
                    simp at h2 h3 h4 h5 ⊢; omega
                  · exact absurd h (by simp)
              · exact absurd h (by simp)
            · obtain ⟨⟨x', t'⟩, hx, he⟩ := Option.map_eq_some_iff.1 h
              simp at he
              obtain ⟨rfl, rfl⟩ := he
              have := ih _ _ _ hx
              have h6 := encL_len n
              simp at h2 h3 ⊢; omega
          · exact absurd h (by simp)
      · split at h
        · obtain ⟨⟨x', t'⟩, hx, he⟩ := Option.map_eq_some_iff.1 h
          simp at he
          obtain ⟨rfl, rfl⟩ := he
          have := ih _ _ _ hx
          simp; omega
        · exact absurd h (by simp)
def keysM (ks : List (List UInt8)) : Nat := sumBy (fun k => k.length + 1) ks
theorem key_mass {rec_ : Bool} {r r1 : List UInt8} {ks : List (List UInt8)} (h : keyR rec_ r = some (ks, r1)) : keysM ks + r1.length ≤ r.length := by
  unfold keyR at h
  cases rec_ with
  | false => simp at h; obtain ⟨rfl, rfl⟩ := h; simp [keysM, sumBy]
  | true =>
    simp only [if_true] at h
    split at h
    · rename_i hp
      split at h
      · exact absurd h (by simp)
      · rename_i k t hs
        split at h
        · rename_i hc
          simp at h
          obtain ⟨rfl, rfl⟩ := h
          have h1 := strR_len _ _ _ _ hs
          have h2 : 1 ≤ r.length := (List.isPrefixOf_iff_prefix.1 hp).length_le
          have h3 : 1 ≤ t.length := (List.isPrefixOf_iff_prefix.1 hc).length_le
          simp [keysM, sumBy] at h1 ⊢
          omega
        · exact absurd h (by simp)
    · exact absurd h (by simp)
theorem items_mass {α : Type} {rv : List UInt8 → Out α} {rec_ : Bool} {close : UInt8} {M : α → Nat} (hrv : ∀ r x t, rv r = .ok x t → M x + t.length ≤ r.length) :
    ∀ (f : Nat) (r t : List UInt8) (y : List (List UInt8) × List α), itemsR rv rec_ close f r = .ok y t → keysM y.1 + sumBy M y.2 + t.length ≤ r.length := by
  intro f
  induction f with
  | zero => intro r t y h; exact absurd h (by simp [itemsR])
  | succ f ih =>
    intro r t y h
    unfold itemsR at h
    split at h
    · exact absurd h (by simp)
    · rename_i ks r1 hk
      have h1 := key_mass hk
      split at h
      · exact absurd h (by simp)
      · rename_i x r2 hv
        have h2 := hrv _ _ _ hv
        split at h
        · simp at h
          obtain ⟨rfl, rfl⟩ := h
          simp [sumBy]; omega
        · split at h
          · split at h
            · exact absurd h (by simp)
            · rename_i z r3 hi
              have h3 := ih _ _ _ hi
              simp at h
              obtain ⟨rfl, rfl⟩ := h
              have h4 : keysM (ks ++ z.1) = keysM ks + keysM z.1 := sumBy_append _ _ _
              simp [sumBy, h4] at h3 ⊢; omega
          · exact absurd h (by simp)
theorem many_mass {α : Type} {rv : List UInt8 → Out α} {rec_ : Bool} {close : UInt8} {M : α → Nat} (hrv : ∀ r x t, rv r = .ok x t → M x + t.length ≤ r.length) (r t : List UInt8) (y : List (List UInt8) × List α) (h : manyR rv rec_ close r = .ok y t) : keysM y.1 + sumBy M y.2 + t.length ≤ r.length := by
  unfold manyR at h
  split at h
  · simp at h
    obtain ⟨rfl, rfl⟩ := h
    simp [keysM, sumBy]
  · exact items_mass hrv _ _ _ _ h
theorem dig_mass {r t : List UInt8} {n : Int} (h : digR r = some (n, t)) : 1 + t.length ≤ r.length := by
  rw [dig_back h, List.length_append]
  have : 1 ≤ (pInt n).length := by
    unfold pInt
    split
    · simp
    · have := decs_ne n.natAbs
      cases hd : decs n.natAbs with
      | nil => exact absurd hd this
      | cons _ _ => simp
  split <;> simp <;> omega
theorem head_mass {n : Nat} {up : List (List UInt8) → Bool} {many : Bool → UInt8 → List UInt8 → Out (List (List UInt8) × List (VT n))} (hm : ∀ b c r y t, many b c r = .ok y t → keysM y.1 + sumBy (massV n) y.2 + t.length ≤ r.length) {r t : List UInt8} {d : VN (VT n)} (h : headR up many r = .ok d t) :
    massV (n + 1) d + t.length ≤ r.length := by
  rw [massV_succ]
  have hk : ∀ ks : List (List UInt8), sumBy (fun k => k.length + 1) ks = keysM ks := fun _ => rfl
  unfold headR at h
  split at h
  · rename_i hp
    have h2 : 4 ≤ r.length := (List.isPrefixOf_iff_prefix.1 hp).length_le
    simp at h; obtain ⟨rfl, rfl⟩ := h; simp [sumBy]; omega
  split at h
  · rename_i hp
    have h2 : 5 ≤ r.length := (List.isPrefixOf_iff_prefix.1 hp).length_le
    simp at h; obtain ⟨rfl, rfl⟩ := h; simp [sumBy]; omega
  split at h
  · rename_i hp
    have h2 : 4 ≤ r.length := (List.isPrefixOf_iff_prefix.1 hp).length_le
    simp at h; obtain ⟨rfl, rfl⟩ := h; simp [sumBy]; omega
  split at h
  · rename_i hp
    have h2 : 1 ≤ r.length := (List.isPrefixOf_iff_prefix.1 hp).length_le
    split at h
    · exact absurd h (by simp)
    · rename_i s t' hs
      have h1 := strR_len _ _ _ _ hs
      simp at h; obtain ⟨rfl, rfl⟩ := h; simp [sumBy] at h1 ⊢; omega
  split at h
  · rename_i hp
    have h2 : 1 ≤ r.length := (List.isPrefixOf_iff_prefix.1 hp).length_le
    split at h
    · exact absurd h (by simp)
    · rename_i y t' hy
      have h1 := hm _ _ _ _ _ hy
      simp at h; obtain ⟨rfl, rfl⟩ := h; simp [hk] at h1 ⊢; omega
  split at h
  · rename_i hp
    have h2 : 1 ≤ r.length := (List.isPrefixOf_iff_prefix.1 hp).length_le
    split at h
    · exact absurd h (by simp)
    · rename_i y t' hy
      have h1 := hm _ _ _ _ _ hy
      split at h
      · simp at h; obtain ⟨rfl, rfl⟩ := h; simp [hk] at h1 ⊢; omega
      · exact absurd h (by simp)
  split at h
  · exact absurd h (by simp)
  · rename_i n' t' hd
    have h1 := dig_mass hd
    simp at h; obtain ⟨rfl, rfl⟩ := h; simp [sumBy]; omega
/-- What is read holds no more than its text. -/
theorem readV_mass (up : List (List UInt8) → Bool) : ∀ (l : Nat) (r t : List UInt8) (d : VN (VT l)), readV up l r = .ok d t → massV (l + 1) d + t.length ≤ r.length := by
  intro l
  induction l with
  | zero => intro r t d h; exact head_mass (fun b c r y t h => absurd h (by simp)) h
  | succ l ih => intro r t d h; exact head_mass (fun b c r y t h => many_mass (M := massV (l + 1)) (fun r x t h => ih r t x h) r t y h) h
end Go.Proofs.YtdnmgpidfjkiaaaDoor

namespace Go.Proofs.YtdnmgpidfjkiaaaDoor
set_option linter.unusedVariables false
set_option linter.unusedSimpArgs false

theorem pParse_in (t : List UInt8) : -9223372036854775808 ≤ (pParse t).1 ∧ (pParse t).1 ≤ 9223372036854775807 := by
  unfold pParse pParseT
  split
  · decide
  split
  · decide
  split
  · decide
  split
  · split
    · simp; omega
    · decide
  · split
    · simp; omega
    · decide
theorem dig_range {r t : List UInt8} {n : Int} (h : digR r = some (n, t)) : -9223372036854775808 ≤ n ∧ n ≤ 9223372036854775807 := by
  have main : ∀ (b : Bool) (r1 : List UInt8), (if (pParse (r1.takeWhile signD)).2 = 0 ∧ (b = decide ((pParse (r1.takeWhile signD)).1 < 0)) then some ((pParse (r1.takeWhile signD)).1, r1.drop (r1.takeWhile signD).length) else none) = some (n, t) → -9223372036854775808 ≤ n ∧ n ≤ 9223372036854775807 := by
    intro b r1 h
    split at h
    · injection h with h
      injection h with h1 h2
      rw [← h1]
      exact pParse_in _
    · exact absurd h (by simp)
  exact main _ _ h
theorem many_each {α : Type} {rv : List UInt8 → Out α} {Q : α → Prop} (hrv : ∀ r x t, rv r = .ok x t → Q x) (b : Bool) (c : UInt8) (r : List UInt8) (y : List (List UInt8) × List α) (t : List UInt8) (h : manyR rv b c r = .ok y t) : ∀ x ∈ y.2, Q x := by
  unfold manyR at h
  split at h
  · simp at h
    obtain ⟨rfl, rfl⟩ := h
    intro x hx; cases hx
  · exact items_each hrv _ _ _ _ h
theorem head_num {n : Nat} {up : List (List UInt8) → Bool} {many : Bool → UInt8 → List UInt8 → Out (List (List UInt8) × List (VT n))} (hm : ∀ b c r y t, many b c r = .ok y t → ∀ x ∈ y.2, NumV n x) {r t : List UInt8} {d : VN (VT n)} (h : headR up many r = .ok d t) : NumV (n + 1) d := by
  unfold headR at h
  split at h
  · simp at h; obtain ⟨rfl, rfl⟩ := h; exact ⟨⟨(by decide : (-9223372036854775808 : Int) ≤ 0), (by decide : (0 : Int) ≤ 9223372036854775807)⟩, fun x hx => by cases hx⟩
  split at h
  · simp at h; obtain ⟨rfl, rfl⟩ := h; exact ⟨⟨(by decide : (-9223372036854775808 : Int) ≤ 0), (by decide : (0 : Int) ≤ 9223372036854775807)⟩, fun x hx => by cases hx⟩
  split at h
  · simp at h; obtain ⟨rfl, rfl⟩ := h; exact ⟨⟨(by decide : (-9223372036854775808 : Int) ≤ 0), (by decide : (0 : Int) ≤ 9223372036854775807)⟩, fun x hx => by cases hx⟩
  split at h
  · split at h
    · exact absurd h (by simp)
    · simp at h; obtain ⟨rfl, rfl⟩ := h; exact ⟨by show (-9223372036854775808 : Int) ≤ 0 ∧ (0 : Int) ≤ 9223372036854775807; decide, fun x hx => by cases hx⟩
  split at h
  · split at h
    · exact absurd h (by simp)
    · rename_i y t' hy
      have h1 := hm _ _ _ _ _ hy
      simp at h; obtain ⟨rfl, rfl⟩ := h; exact ⟨by show (-9223372036854775808 : Int) ≤ 0 ∧ (0 : Int) ≤ 9223372036854775807; decide, h1⟩
  split at h
  · split at h
    · exact absurd h (by simp)
    · rename_i y t' hy
      have h1 := hm _ _ _ _ _ hy
      split at h
      · simp at h; obtain ⟨rfl, rfl⟩ := h; exact ⟨by show (-9223372036854775808 : Int) ≤ 0 ∧ (0 : Int) ≤ 9223372036854775807; decide, h1⟩
      · exact absurd h (by simp)
  split at h
  · exact absurd h (by simp)
  · rename_i n' t' hd
    simp at h; obtain ⟨rfl, rfl⟩ := h
    exact ⟨dig_range hd, fun x hx => by cases hx⟩
theorem readV_num (up : List (List UInt8) → Bool) : ∀ (l : Nat) (r t : List UInt8) (d : VN (VT l)), readV up l r = .ok d t → NumV (l + 1) d := by
  intro l
  induction l with
  | zero => intro r t d h; exact head_num (fun b c r y t h => absurd h (by simp)) h
  | succ l ih => intro r t d h; exact head_num (fun b c r y t h => many_each (Q := NumV (l + 1)) (fun r x t h => ih r t x h) b c r y t h) h
theorem readR_of {up : List (List UInt8) → Bool} {s t : List UInt8} {d : VN (VT 16)} (h : readR up s = .ok d t) : readV up 16 s = .ok d [] := by
  unfold readR at h
  split at h
  · exact absurd h (by simp)
  · rename_i v r hv
    split at h
    · rename_i hr; subst hr; simp at h; obtain ⟨rfl, rfl⟩ := h; exact hv
    · exact absurd h (by simp)
/-- What is read is small, and its numbers are. -/
theorem readR_small {up : List (List UInt8) → Bool} {s t : List UInt8} {d : VN (VT 16)} (h : readR up s = .ok d t) (hs : s.length ≤ 1048576) : SmallV 17 d ∧ NumV 17 d ∧ massV 17 d ≤ 1048576 := by
  have h1 := readR_of h
  have h2 := readV_mass up 16 _ _ _ h1
  have h3 : massV 17 d ≤ 1048576 := by simp at h2; omega
  exact ⟨small_of_mass 17 d h3, readV_num up 16 _ _ _ h1, h3⟩
theorem plainL_V : ∀ (n : Nat) (d : VT n), plainL n d = plainV n d := by
  intro n
  induction n with
  | zero => intro d; rfl
  | succ n ih =>
    intro d
    show ((VN.l d).all (plainL n) && decide (VN.k d < 7)) = ((VN.l d).all (plainV n) && decide (VN.k d < 7))
    have : plainL n = plainV n := funext ih
    rw [this]
end Go.Proofs.YtdnmgpidfjkiaaaDoor

namespace Go.Proofs.YtdnmgpidfjkiaaaDoor
set_option linter.unusedVariables false
set_option linter.unusedSimpArgs false

theorem small_hexd (d : Nat) (h : d < 16) : smallB (hexd d) = hexd d := by
  have : ∀ d : Fin 16, smallB (hexd d.val) = hexd d.val := by decide +kernel
  exact this ⟨d, h⟩
theorem small_hexs (u : Nat) : ∀ k, (hexs u k).map smallB = hexs u k := by
  intro k
  induction k with
  | zero => rfl
  | succ k ih => simp only [hexs, List.map_cons, ih, small_hexd _ (Nat.mod_lt _ (by omega))]
theorem half_full (n : Nat) (h : n < 65536) (r : List UInt8) : halfR (pHex (n : Int) 4 ++ r) = some ((n : Int), r) := by
  have hl := pHex4_len (n : Int)
  have ht : (pHex (n : Int) 4 ++ r).take 4 = pHex (n : Int) 4 := by rw [← hl, List.take_left]
  have hd : (pHex (n : Int) 4 ++ r).drop 4 = r := by rw [← hl, List.drop_left]
  unfold halfR
  rw [if_neg (by rw [List.length_append]; omega), ht, hd, pUnhex4 n h, if_pos ⟨rfl, by rw [pHex4 n h]; exact small_hexs n 4⟩]
/-- A text that was escaped is read. -/
theorem str_full : ∀ (xs : List Int) (f : Nat) (t : List UInt8), (∀ c ∈ xs, badC c = false ∧ 0 < c) → xs.length < f → strR f (xs.flatMap quoteI ++ 34 :: t) = some (xs.flatMap encL, t) := by
  intro xs
  induction xs with
  | nil =>
    intro f t _ hf
    obtain ⟨f, rfl⟩ : ∃ g, f = g + 1 := ⟨f - 1, by simp at hf; omega⟩
    simp [strR]
  | cons c xs ih =>
    intro f t hg hf
    obtain ⟨f, rfl⟩ : ∃ g, f = g + 1 := ⟨f - 1, by simp at hf; omega⟩
    have hi := ih f t (fun x hx => hg x (List.mem_cons_of_mem _ hx)) (by simp at hf; omega)
    obtain ⟨hb, h0⟩ := hg c (List.mem_cons_self ..)
    obtain ⟨N, rfl⟩ : ∃ N : Nat, c = (N : Int) := ⟨c.toNat, by omega⟩
    have hlt : N < 1114112 := by simp [badC] at hb; omega
    rw [List.flatMap_cons, List.flatMap_cons, List.append_assoc]
    obtain ⟨R, hR⟩ : ∃ R, xs.flatMap quoteI ++ 34 :: t = R := ⟨_, rfl⟩
    rw [hR] at hi ⊢
    have hq : quoteI (N : Int) = quoteC N := rfl
    rw [hq]
    rcases Bool.eq_false_or_eq_true (plainC N) with hp | hp
    · obtain ⟨p1, p2, p3, p4, p5, _, _, p8, _⟩ := plainC_octet N hp
      have he : encL (N : Int) = [u8 N] := by
        unfold encL; rw [hb]; simp only [Bool.false_eq_true, if_false]
        exact p2
      rw [p1, he]
      have n34 : u8 N ≠ 34 := fun h => p8 (by rw [← p4, h]; rfl)
      have n92 : u8 N ≠ 92 := fun h => p5 (by rw [← p4, h]; rfl)
      have hpre : [92, 117].isPrefixOf (u8 N :: R) = false := by
        simp only [List.isPrefixOf, Bool.and_eq_false_iff]
        exact .inl (by simpa using Ne.symm n92)
      show strR (f + 1) (u8 N :: R) = _
      simp only [strR]
      rw [if_neg n34, hpre]
      simp only [Bool.false_eq_true, if_false]
      rw [p4, hp, if_pos rfl, hi]
      rfl
    · by_cases hgt : 65535 < N
      · have hq2 : quoteC N = uniR (55296 + (N - 65536) / 1024) ++ uniR (56320 + (N - 65536) % 1024) := by
          unfold quoteC; rw [hp, if_neg (by simp), if_pos hgt]
        rw [hq2]
        unfold uniR
        obtain ⟨H, hH⟩ : ∃ H, 55296 + (N - 65536) / 1024 = H := ⟨_, rfl⟩
        obtain ⟨L, hL⟩ : ∃ L, 56320 + (N - 65536) % 1024 = L := ⟨_, rfl⟩
        rw [hH, hL]
        simp only [List.cons_append, List.nil_append, List.append_assoc]
        simp only [strR]
        rw [if_neg (by decide)]
        simp only [List.isPrefixOf, beq_self_eq_true, Bool.and_self, if_true, List.drop_succ_cons, List.drop_zero]
        rw [half_full H (by omega)]
        (try simp only)
        rw [if_pos ⟨not_plain_great (by omega), by omega, by omega⟩, if_pos ⟨by omega, by omega⟩]
        simp only [List.isPrefixOf, beq_self_eq_true, Bool.and_self, if_true, List.drop_succ_cons, List.drop_zero]
        rw [half_full L (by omega)]
        (try simp only)
        rw [if_pos ⟨by omega, by omega⟩, hi]
        simp only [Option.map_some]
        rw [show (65536 + ((H : Int) - 55296) * 1024 + (L : Int) - 56320) = (N : Int) by omega]
      · have hq2 : quoteC N = uniR N := by unfold quoteC; rw [hp, if_neg (by simp), if_neg hgt]
        rw [hq2]
        unfold uniR
        simp only [List.cons_append, List.nil_append, List.append_assoc]
        simp only [strR]
        rw [if_neg (by decide)]
        simp only [List.isPrefixOf, beq_self_eq_true, Bool.and_self, if_true, List.drop_succ_cons, List.drop_zero]
        have hns : (N : Int) < 55296 ∨ 57343 < (N : Int) := by simp [badC] at hb; omega
        rw [half_full N (by omega)]
        (try simp only)
        rw [if_pos ⟨by rw [show ((N : Int)).toNat = N from rfl]; exact hp, by omega, by omega⟩, if_neg (by omega), hi]
        rfl
theorem sign_dig (c : UInt8) (h : isDig c = true) : signD c = true := by
  have := allBytes (fun c => !(isDig c) || signD c) (by decide +kernel) c
  simpa [h] using this
theorem sign_pInt (n : Int) : ∀ c ∈ pInt n, signD c = true := by
  intro c hc
  have hd := List.all_eq_true.1 (decs_all n.natAbs)
  unfold pInt at hc
  split at hc
  · rcases List.mem_cons.1 hc with rfl | hc
    · decide
    · exact sign_dig c (hd c hc)
  · exact sign_dig c (hd c hc)
/-- What stands behind a number is no part of it. -/
def endsNum (t : List UInt8) : Prop := ∀ c, t.head? = some c → signD c = false
theorem takeWhile_all (p : UInt8 → Bool) (l t : List UInt8) (h : ∀ c ∈ l, p c = true) (ht : ∀ c, t.head? = some c → p c = false) : (l ++ t).takeWhile p = l := by
  induction l with
  | nil =>
    cases t with
    | nil => rfl
    | cons c t => simp [List.takeWhile_cons, ht c rfl]
  | cons c l ih => simp [List.takeWhile_cons, h c (List.mem_cons_self ..), ih fun x hx => h x (List.mem_cons_of_mem _ hx)]
theorem pInt_first (n : Int) : ∃ c r, pInt n = c :: r ∧ signD c = true := by
  have hne : pInt n ≠ [] := by
    unfold pInt
    split
    · simp
    · exact decs_ne _
  cases h : pInt n with
  | nil => exact absurd h hne
  | cons c r => exact ⟨c, r, rfl, sign_pInt n c (by rw [h]; exact List.mem_cons_self ..)⟩
/-- A number is read again. -/
theorem dig_full (n : Int) (h0 : -9223372036854775808 ≤ n) (h1 : n ≤ 9223372036854775807) (t : List UInt8) (ht : endsNum t) : digR ((if n < 0 then 32 :: pInt n else pInt n) ++ t) = some (n, t) := by
  have hp := pParse_pInt n h0 h1
  have htk := takeWhile_all signD (pInt n) t (sign_pInt n) ht
  unfold digR
  by_cases hn : n < 0
  · rw [if_pos hn]
    have hb : [32].isPrefixOf (32 :: pInt n ++ t) = true := by simp [List.isPrefixOf]
    simp only [hb, if_true]
    rw [show (32 :: pInt n ++ t).drop 1 = pInt n ++ t from rfl, htk, hp]
    simp [hn]
  · rw [if_neg hn]
    obtain ⟨c, r, hc, hs⟩ := pInt_first n
    have hb : [32].isPrefixOf (pInt n ++ t) = false := by
      rw [hc]
      have : c ≠ 32 := by rintro rfl; exact absurd hs (by decide)
      simp [List.isPrefixOf]
      exact Ne.symm this
    simp only [hb, Bool.false_eq_true, if_false]
    rw [htk, hp]
    simp [hn]
end Go.Proofs.YtdnmgpidfjkiaaaDoor

namespace Go.Proofs.YtdnmgpidfjkiaaaDoor
set_option linter.unusedVariables false
set_option linter.unusedSimpArgs false

theorem fixC_pos (c : Int) : 0 < fixC c := by unfold fixC; split <;> omega
theorem charsR_pos : ∀ (n : Nat) (l : List UInt8), l.length ≤ n → ∀ c ∈ charsR l, 0 < c := by
  intro n
  induction n with
  | zero =>
    intro l h c hc
    obtain rfl : l = [] := List.length_eq_zero_iff.1 (by omega)
    rw [charsR_nil] at hc; cases hc
  | succ n ih =>
    intro l h c hc
    by_cases hl : l = []
    · subst hl; rw [charsR_nil] at hc; cases hc
    · rw [charsR_cons l hl] at hc
      rcases List.mem_cons.1 hc with rfl | hc
      · exact fixC_pos _
      · have := (decR_pos l hl).1
        have hll : 0 < l.length := List.length_pos_iff.2 hl
        exact ih (l.drop (decR l).2) (by rw [List.length_drop]; omega) c hc
/-- A text as it is read again. -/
def againR (s : List UInt8) : List UInt8 := (charsR s).flatMap encL
theorem flatQ_ge : ∀ xs : List Int, xs.length ≤ (xs.flatMap quoteI).length := by
  intro xs
  induction xs with
  | nil => simp
  | cons c xs ih =>
    rw [List.flatMap_cons, List.length_append, List.length_cons]
    have := (quoteC_len c.toNat).1
    have h2 : (quoteI c).length = (quoteC c.toNat).length := rfl
    omega
/-- A quoted text is read. -/
theorem quote_full (s t : List UInt8) (f : Nat) (hf : (escR s).length < f) : strR f (escR s ++ 34 :: t) = some (againR s, t) :=
  str_full (charsR s) f t (fun c hc => ⟨charsR_good s c hc, charsR_pos s.length s (Nat.le_refl _) c hc⟩) (Nat.lt_of_le_of_lt (flatQ_ge _) hf)
theorem key_full (k r : List UInt8) : keyR true (quoteL k ++ 58 :: r) = some ([againR k], r) := by
  unfold keyR
  have h1 : [34].isPrefixOf (quoteL k ++ 58 :: r) = true := by simp [quoteL, List.isPrefixOf]
  have h2 : (quoteL k ++ 58 :: r).drop 1 = escR k ++ 34 :: (58 :: r) := by simp [quoteL]
  simp only [h1, if_true, h2]
  rw [quote_full k (58 :: r) _ (by simp [quoteL]; omega)]
  simp [List.isPrefixOf]
theorem ends_comma (r : List UInt8) : endsNum (44 :: r) := by intro c hc; simp at hc; subst hc; decide
theorem ends_close (c : UInt8) (hc : c = 93 ∨ c = 125) (r : List UInt8) : endsNum (c :: r) := by
  intro d hd; simp at hd; subst hd; rcases hc with rfl | rfl <;> decide
def keyL (ks : Option (List (List UInt8))) : List UInt8 := match ks with | some (k :: _) => quoteL k ++ [58] | _ => []
theorem partsL_one (ks : Option (List (List UInt8))) (p : List UInt8) : partsL ks [p] = keyL ks ++ p := by
  simp only [partsL, List.append_nil]; rfl
theorem partsL_two (ks : Option (List (List UInt8))) (p q : List UInt8) (qs : List (List UInt8)) : partsL ks (p :: q :: qs) = keyL ks ++ (p ++ 44 :: partsL (ks.map List.tail) (q :: qs)) := by
  have : partsL ks (p :: q :: qs) = keyL ks ++ p ++ [44] ++ partsL (ks.map List.tail) (q :: qs) := rfl
  rw [this]; simp [List.append_assoc]
/-- Parts are read again. -/
theorem items_full {α : Type} (rv : List UInt8 → Out α) (close : UInt8) (hc : close = 93 ∨ close = 125) : ∀ (ps : List (List UInt8)) (ks : Option (List (List UInt8))) (f : Nat) (t : List UInt8), ps ≠ [] → ps.length < f →
    (∀ kl, ks = some kl → kl.length = ps.length) → (∀ p ∈ ps, ∀ t, endsNum t → ∃ x, rv (p ++ t) = .ok x t) →
    ∃ y, itemsR rv ks.isSome close f (partsL ks ps ++ close :: t) = .ok y t ∧ y.1 = (ks.getD []).map againR := by
  intro ps
  induction ps with
  | nil => intro ks f t h; exact absurd rfl h
  | cons p ps ih =>
    intro ks f t _ hf hk hp
    obtain ⟨f, rfl⟩ : ∃ g, f = g + 1 := ⟨f - 1, by simp at hf; omega⟩
    -- the key
    have hkey : ∀ R, ∃ k1, keyR ks.isSome (keyL ks ++ R) = some (k1, R) ∧ k1 = ((ks.getD []).take 1).map againR := by
      intro R
      cases ks with
      | none => exact ⟨[], rfl, rfl⟩
      | some kl =>
        cases kl with
        | nil => have := hk [] rfl; simp at this
        | cons k kl =>
          refine ⟨[againR k], ?_, rfl⟩
          have := key_full k R
          simpa [keyL, List.append_assoc] using this
    cases ps with
    | nil =>
      obtain ⟨k1, hk1, hk2⟩ := hkey (p ++ close :: t)
      obtain ⟨x, hx⟩ := hp p (List.mem_cons_self ..) (close :: t) (ends_close close hc t)
      refine ⟨(k1, [x]), ?_, ?_⟩
      · unfold itemsR
        have he : partsL ks [p] ++ close :: t = keyL ks ++ (p ++ close :: t) := by rw [partsL_one, List.append_assoc]
        rw [he, hk1]
        simp only
        rw [hx]
        simp [List.isPrefixOf]
      · rw [hk2]
        cases ks with
        | none => rfl
        | some kl =>
          have := hk kl rfl
          simp at this
          simp [List.take_of_length_le (Nat.le_of_eq this)]
    | cons q qs =>
      obtain ⟨y, hy, hy1⟩ := ih (ks.map List.tail) f t (by simp) (by simp at hf ⊢; omega) (fun kl h => by
        cases ks with
        | none => cases h
        | some kl' =>
          have := hk kl' rfl
          injection h with h
          subst h
          simp at this ⊢; omega) (fun p' hp' => hp p' (List.mem_cons_of_mem _ hp'))
      obtain ⟨k1, hk1, hk2⟩ := hkey (p ++ 44 :: (partsL (ks.map List.tail) (q :: qs) ++ close :: t))
      obtain ⟨x, hx⟩ := hp p (List.mem_cons_self ..) (44 :: (partsL (ks.map List.tail) (q :: qs) ++ close :: t)) (ends_comma _)
      refine ⟨(k1 ++ y.1, x :: y.2), ?_, ?_⟩
      · unfold itemsR
        have he : partsL ks (p :: q :: qs) ++ close :: t = keyL ks ++ (p ++ 44 :: (partsL (ks.map List.tail) (q :: qs) ++ close :: t)) := by rw [partsL_two]; simp only [List.append_assoc, List.cons_append]
        rw [he, hk1]
        simp only
        rw [hx]
        have hn : [close].isPrefixOf (44 :: (partsL (ks.map List.tail) (q :: qs) ++ close :: t)) = false := by
          rcases hc with rfl | rfl <;> simp [List.isPrefixOf]
        simp only [hn, Bool.false_eq_true, if_false]
        have hs : (ks.map List.tail).isSome = ks.isSome := by cases ks <;> rfl
        rw [hs] at hy
        simp only [List.isPrefixOf, beq_self_eq_true, Bool.and_self, if_true, List.drop_succ_cons, List.drop_zero]
        rw [hy]
      · rw [hk2, hy1]
        cases ks with
        | none => rfl
        | some kl =>
          cases kl with
          | nil => have := hk [] rfl; simp at this
          | cons k kl => simp
end Go.Proofs.YtdnmgpidfjkiaaaDoor

namespace Go.Proofs.YtdnmgpidfjkiaaaDoor
set_option linter.unusedVariables false
set_option linter.unusedSimpArgs false

/-- Parts from place j on, each behind its comma and its key. -/
def bodyC (key : Nat → List UInt8) : Nat → List (List UInt8) → List UInt8
  | _, [] => []
  | j, p :: r => (if j = 0 then [] else [44]) ++ (key j ++ (p ++ bodyC key (j + 1) r))
theorem bodyC_app (key : Nat → List UInt8) : ∀ (a b : List (List UInt8)) (j : Nat), bodyC key j (a ++ b) = bodyC key j a ++ bodyC key (j + a.length) b := by
  intro a
  induction a with
  | nil => intro b j; simp [bodyC]
  | cons p a ih =>
    intro b j
    simp only [List.cons_append, bodyC, ih, List.length_cons, List.append_assoc]
    rw [show j + 1 + a.length = j + (a.length + 1) by omega]
theorem bodyC_next (key : Nat → List UInt8) (ps : List (List UInt8)) (j : Nat) (p : List UInt8) (h : ps[j]? = some p) : bodyC key 0 (ps.take (j + 1)) = bodyC key 0 (ps.take j) ++ ((if j = 0 then [] else [44]) ++ (key j ++ p)) := by
  have hj := (List.getElem?_eq_some_iff.1 h).1
  rw [List.take_add_one, h, bodyC_app]
  simp only [Option.toList_some, List.length_take, Nat.min_eq_left (Nat.le_of_lt hj), Nat.zero_add, bodyC, List.append_nil]
theorem bodyC_le (key : Nat → List UInt8) (ps : List (List UInt8)) (j : Nat) : (bodyC key 0 (ps.take j)).length ≤ (bodyC key 0 ps).length := by
  have := bodyC_app key (ps.take j) (ps.drop j) 0
  rw [List.take_append_drop] at this
  rw [this]; simp
/-- The key ahead of a place. -/
def keyC (ks : List (List UInt8)) (j : Nat) : List UInt8 := match ks[j]? with | some k => quoteL k ++ [58] | none => []
theorem keyC_shift (k : List UInt8) (ks : List (List UInt8)) (j : Nat) : keyC (k :: ks) (j + 1) = keyC ks j := rfl
theorem bodyC_shift (key key' : Nat → List UInt8) : ∀ (ps : List (List UInt8)) (j : Nat), (∀ i, key (i + 1) = key' i) → bodyC key (j + 1) ps = (match ps with | [] => [] | _ => [44]) ++ (match j with | 0 => bodyC key' 0 ps | _ => (bodyC key' j ps).drop 1) := by
  intro ps j h
  cases ps with
  | nil => cases j <;> simp [bodyC]
  | cons p r =>
    have hgen : ∀ (r : List (List UInt8)) (j : Nat), 0 < j → bodyC key (j + 1) r = bodyC key' j r := by
      intro r
      induction r with
      | nil => intro j _; rfl
      | cons q r ih =>
        intro j hj
        simp only [bodyC, h, ih (j + 1) (by omega)]
        rw [if_neg (by omega), if_neg (by omega)]
    cases j with
    | zero =>
      simp only [bodyC, h, hgen r 1 (by omega)]
      simp
    | succ j =>
      simp only [bodyC, h, hgen r (j + 2) (by omega)]
      simp
theorem partsL_none : ∀ ps : List (List UInt8), partsL none ps = bodyC (fun _ => []) 0 ps := by
  intro ps
  induction ps with
  | nil => rfl
  | cons p r ih =>
    cases r with
    | nil => rw [partsL_one]; simp [bodyC, keyL]
    | cons q qs =>
      have h := bodyC_shift (fun _ => []) (fun _ => []) (q :: qs) 0 (fun _ => rfl)
      rw [partsL_two, show (none : Option (List (List UInt8))).map List.tail = none from rfl, ih]
      rw [show bodyC (fun _ => []) 0 (p :: q :: qs) = (if (0 : Nat) = 0 then [] else [44]) ++ ([] ++ (p ++ bodyC (fun _ => []) (0 + 1) (q :: qs))) from rfl, h]
      simp [keyL]
theorem partsL_some : ∀ (ps ks : List (List UInt8)), partsL (some ks) ps = bodyC (keyC ks) 0 ps := by
  intro ps
  induction ps with
  | nil => intro ks; rfl
  | cons p r ih =>
    intro ks
    have hk : ∀ i, keyC ks (i + 1) = keyC ks.tail i := by
      intro i
      cases ks with
      | nil => rfl
      | cons k ks => rfl
    have h0 : keyL (some ks) = keyC ks 0 := by
      cases ks with
      | nil => rfl
      | cons k ks => rfl
    cases r with
    | nil => rw [partsL_one, h0]; simp [bodyC]
    | cons q qs =>
      have h := bodyC_shift (keyC ks) (keyC ks.tail) (q :: qs) 0 hk
      rw [partsL_two, h0, show (some ks : Option (List (List UInt8))).map List.tail = some ks.tail from rfl, ih]
      rw [show bodyC (keyC ks) 0 (p :: q :: qs) = (if (0 : Nat) = 0 then [] else [44]) ++ (keyC ks 0 ++ (p ++ bodyC (keyC ks) (0 + 1) (q :: qs))) from rfl, h]
      simp
theorem quoteL_len (s : List UInt8) : (quoteL s).length ≤ 12 * s.length + 2 := by
  have := escR_len s
  unfold quoteL
  simp; omega
theorem pInt_le22 (n : Int) (h0 : -9223372036854775808 ≤ n) (h1 : n ≤ 9223372036854775807) : (pInt n).length ≤ 21 := by
  unfold pInt
  have := (decs_len20 n.natAbs (by omega)).1
  split
  · simp; omega
  · omega
theorem bodyC_len (key : Nat → List UInt8) : ∀ (ps : List (List UInt8)) (j : Nat), (bodyC key j ps).length ≤ sumBy (fun p => p.length + 1) ps + sumBy (fun i => (key i).length) (List.range' j ps.length) := by
  intro ps
  induction ps with
  | nil => intro j; simp [bodyC]
  | cons p r ih =>
    intro j
    have := ih (j + 1)
    simp only [bodyC, List.length_append, sumBy, List.length_cons, List.range'_succ]
    have h : (if j = 0 then ([] : List UInt8) else [44]).length ≤ 1 := by split <;> simp
    omega
theorem keysC_len (ks : List (List UInt8)) : ∀ (m j : Nat), sumBy (fun i => (keyC ks i).length) (List.range' j m) ≤ sumBy (fun k => 12 * k.length + 3) (ks.drop j) := by
  intro m
  induction m with
  | zero => intro j; simp [sumBy]
  | succ m ih =>
    intro j
    have h1 := ih (j + 1)
    rw [List.range'_succ]
    simp only [sumBy]
    rcases Nat.lt_or_ge j ks.length with h | h
    · rw [List.drop_eq_getElem_cons h]
      simp only [sumBy]
      have : (keyC ks j).length ≤ 12 * (ks[j]'h).length + 3 := by
        unfold keyC; rw [List.getElem?_eq_getElem h]
        have := quoteL_len (ks[j]'h)
        simp; omega
      omega
    · have : (keyC ks j).length = 0 := by unfold keyC; rw [List.getElem?_eq_none h]; rfl
      rw [List.drop_of_length_le (by omega)] at h1 ⊢
      omega
theorem sumC_mul {α : Type} (f g : α → Nat) (c : Nat) (h : ∀ x, f x ≤ c * g x) : ∀ l : List α, sumBy f l ≤ c * sumBy g l := by
  intro l
  induction l with
  | nil => simp [sumBy]
  | cons x l ih => simp only [sumBy, Nat.mul_add]; have := h x; omega
theorem sumC_mem {α : Type} (f g : α → Nat) (c : Nat) : ∀ l : List α, (∀ x ∈ l, f x ≤ c * g x) → sumBy f l ≤ c * sumBy g l := by
  intro l
  induction l with
  | nil => intro _; simp [sumBy]
  | cons x l ih => intro h; simp only [sumBy, Nat.mul_add]; have := h x (List.mem_cons_self ..); have := ih fun y hy => h y (List.mem_cons_of_mem _ hy); omega
/-- A literal is no longer than 30 times what its value holds. -/
theorem litR_len : ∀ (n : Nat) (d : VT n), NumV n d → (litR n d).length + 3 ≤ 30 * massV n d := by
  intro n
  induction n with
  | zero => intro d _; show 0 + 3 ≤ 30 * 1; omega
  | succ n ih =>
    intro d hn
    obtain ⟨k, i, s, l, ks⟩ := d
    obtain ⟨hi, hl⟩ := hn
    have hl : ∀ x ∈ l, NumV n x := hl
    rw [lit_mk, massV_succ]
    show _ ≤ 30 * (1 + s.length + sumBy (fun k => k.length + 1) ks + sumBy (massV n) l)
    have hparts : sumBy (fun p => p.length + 1) (l.map (litR n)) ≤ 30 * sumBy (massV n) l := by
      rw [sumBy_map]
      exact sumC_mem _ _ _ l fun x hx => by have := ih x (hl x hx); omega
    have hq := quoteL_len s
    split
    · simp; omega
    split
    · simp; omega
    split
    · simp; omega
    split
    · have := pInt_le22 i hi.1 hi.2
      split
      · simp; omega
      · omega
    split
    · rw [partsL_none]
      have h1 := bodyC_len (fun _ => []) (l.map (litR n)) 0
      have h2 : ∀ L : List Nat, sumBy (fun _ => ([] : List UInt8).length) L = 0 := by
        intro L
        induction L with
        | nil => rfl
        | cons x L ih => simp only [sumBy, ih]; rfl
      rw [h2] at h1
      simp only [List.length_cons, List.length_append, List.length_nil]
      omega
    split
    · rw [partsL_some]
      have h1 := bodyC_len (keyC ks) (l.map (litR n)) 0
      have h2 := keysC_len ks (l.map (litR n)).length 0
      have h3 : sumBy (fun k : List UInt8 => 12 * k.length + 3) (ks.drop 0) ≤ 30 * sumBy (fun k => k.length + 1) ks := sumC_mul _ _ _ (fun x => by omega) ks
      simp only [List.length_cons, List.length_append, List.length_nil]
      omega
    · omega
end Go.Proofs.YtdnmgpidfjkiaaaDoor

namespace Go.Proofs.YtdnmgpidfjkiaaaDoor
set_option linter.unusedVariables false
set_option linter.unusedSimpArgs false

theorem pre_app (p r : List UInt8) : p.isPrefixOf (p ++ r) = true := by simp
theorem pre_no {a b : UInt8} (p r : List UInt8) (h : a ≠ b) : (a :: p).isPrefixOf (b :: r) = false := by simp [List.isPrefixOf, h]
theorem lit_first {m : Nat} (d : VN (VT m)) : ∃ c r, litR (m + 1) d = c :: r ∧ c ≠ 93 ∧ c ≠ 125 := by
  obtain ⟨k, i, s, l, ks⟩ := d
  rw [lit_mk]
  split
  · exact ⟨_, _, rfl, by decide, by decide⟩
  split
  · exact ⟨_, _, rfl, by decide, by decide⟩
  split
  · exact ⟨_, _, rfl, by decide, by decide⟩
  split
  · split
    · exact ⟨_, _, rfl, by decide, by decide⟩
    · obtain ⟨c, r, h, hs⟩ := pInt_first i
      exact ⟨c, r, h, by rintro rfl; exact absurd hs (by decide), by rintro rfl; exact absurd hs (by decide)⟩
  split
  · exact ⟨_, _, rfl, by decide, by decide⟩
  split
  · exact ⟨_, _, rfl, by decide, by decide⟩
  · exact ⟨34, _, rfl, by decide, by decide⟩
theorem head_facts {deep : Nat} {k i : Int} {sl nl kl : Nat} {up : Bool} (h : headErr deep k i sl nl kl up = 0) : 0 ≤ k ∧ k ≤ 11 ∧ ((k = 5 ∨ k = 6) → deep ≠ 16) ∧ (k = 6 → kl = nl ∧ up = true) := by
  unfold headErr at h
  split at h
  · cases h
  rename_i h1
  split at h
  · cases h
  split at h
  · cases h
  split at h
  · cases h
  rename_i h4
  split at h
  · cases h
  rename_i h5
  refine ⟨by omega, by omega, fun hk hd => h1 ⟨hk, hd⟩, fun hk => ?_⟩
  have : ¬ (kl ≠ nl ∨ up = false) := fun hh => h5 ⟨hk, hh⟩
  exact ⟨by omega, by cases up <;> simp_all⟩
/-- The parts of a list or record. -/
theorem many_full {m : Nat} {α : Type} (rv : List UInt8 → Out α) (close : UInt8) (hc : close = 93 ∨ close = 125) (l : List (VT m)) (ks : Option (List (List UInt8))) (t : List UInt8) (hk : ∀ kl, ks = some kl → kl.length = l.length)
    (hp : ∀ x ∈ l, ∀ t, endsNum t → ∃ y, rv (litR m x ++ t) = .ok y t) : ∃ y, manyR rv ks.isSome close (partsL ks (l.map (litR m)) ++ close :: t) = .ok y t ∧ y.1 = (ks.getD []).map againR := by
  cases l with
  | nil =>
    refine ⟨([], []), by simp [manyR, partsL, List.isPrefixOf], ?_⟩
    cases ks with
    | none => rfl
    | some kl => have := hk kl rfl; simp at this; subst this; rfl
  | cons x l =>
    have hf : [close].isPrefixOf (partsL ks ((x :: l).map (litR m)) ++ close :: t) = false := by
      have : ∃ c r, partsL ks ((x :: l).map (litR m)) = c :: r ∧ c ≠ close := by
        cases m with
        | zero => exact x.elim
        | succ m =>
          obtain ⟨c, r, h1, h2, h3⟩ := lit_first x
          have hcc : c ≠ close := by rcases hc with rfl | rfl; exact h2; exact h3
          have hq : (34 : UInt8) ≠ close := by rcases hc with rfl | rfl <;> decide
          rw [List.map_cons, h1]
          cases ks with
          | none => exact ⟨c, _, rfl, hcc⟩
          | some kl =>
            cases kl with
            | nil => exact ⟨c, _, rfl, hcc⟩
            | cons k kl => exact ⟨34, _, rfl, hq⟩
      obtain ⟨c, r, h1, h2⟩ := this
      rw [h1, List.cons_append]
      exact pre_no [] _ (Ne.symm h2)
    unfold manyR
    rw [hf]
    simp only [Bool.false_eq_true, if_false]
    refine items_full rv close hc _ ks _ t (by simp) ?_ (fun kl h => by rw [hk kl h]; simp) (fun p hp2 t ht => ?_)
    · have : ∀ (ps : List (List UInt8)) (ks : Option (List (List UInt8))), (∀ p ∈ ps, p ≠ []) → ps.length ≤ (partsL ks ps).length := by
        intro ps
        induction ps with
        | nil => intro ks _; simp
        | cons p ps ih =>
          intro ks h
          have h1 := ih (ks.map List.tail) fun q hq => h q (List.mem_cons_of_mem _ hq)
          have h2 := List.length_pos_iff.2 (h p (List.mem_cons_self ..))
          simp only [partsL, List.length_append, List.length_cons]
          omega
      have h2 := this ((x :: l).map (litR m)) ks (fun p hp => by
        obtain ⟨y, _, rfl⟩ := List.mem_map.1 hp
        cases m with
        | zero => exact y.elim
        | succ m => obtain ⟨c, r, h, _⟩ := lit_first y; rw [h]; simp)
      simp only [List.length_append, List.length_cons]
      omega
    · obtain ⟨y, hy, rfl⟩ := List.mem_map.1 hp2
      exact hp y hy t ht
/-- The head of a literal is read again. -/
theorem head_full {m : Nat} {α : Type} (up : List (List UInt8) → Bool) (hup : ∀ ks, risingK ks = true → up (ks.map againR) = true) (many : Bool → UInt8 → List UInt8 → Out (List (List UInt8) × List α)) (d : VN (VT m)) (deep : Nat) (t : List UInt8) (hc : checkV (m + 1) deep d = 0) (hn : NumV (m + 1) d) (ht : endsNum t)
    (hmany : deep ≠ 16 → ∀ (close : UInt8) (ks : Option (List (List UInt8))), (close = 93 ∨ close = 125) → (∀ kl, ks = some kl → kl.length = d.l.length) → ∃ y, many ks.isSome close (partsL ks (d.l.map (litR m)) ++ close :: t) = .ok y t ∧ y.1 = (ks.getD []).map againR) :
    ∃ v, headR up many (litR (m + 1) d ++ t) = .ok v t := by
  obtain ⟨k, i, s, l, ks⟩ := d
  obtain ⟨hh, _⟩ := check_parts hc
  obtain ⟨h0, h11, h16, h6⟩ := head_facts hh
  obtain ⟨hi, _⟩ := hn
  rw [lit_mk]
  by_cases k0 : k = 0
  · rw [if_pos k0]; exact ⟨_, by unfold headR; rw [if_pos (pre_app _ _)]; rfl⟩
  rw [if_neg k0]
  by_cases k1 : k = 1
  · rw [if_pos k1]
    refine ⟨⟨1, 0, [], [], []⟩, ?_⟩
    unfold headR
    simp [List.isPrefixOf]
  rw [if_neg k1]
  by_cases k2 : k = 2
  · rw [if_pos k2]
    refine ⟨⟨2, 0, [], [], []⟩, ?_⟩
    unfold headR
    simp [List.isPrefixOf]
  rw [if_neg k2]
  by_cases k3 : k = 3
  · rw [if_pos k3]
    have hd := dig_full i hi.1 hi.2 t ht
    have hf : ∃ c r, (if i < 0 then 32 :: pInt i else pInt i) ++ t = c :: r ∧ c ≠ 110 ∧ c ≠ 102 ∧ c ≠ 116 ∧ c ≠ 34 ∧ c ≠ 91 ∧ c ≠ 123 := by
      split
      · exact ⟨32, _, rfl, by decide, by decide, by decide, by decide, by decide, by decide⟩
      · obtain ⟨c, r, h, hs⟩ := pInt_first i
        refine ⟨c, r ++ t, by rw [h]; rfl, ?_, ?_, ?_, ?_, ?_, ?_⟩ <;> (rintro rfl; exact absurd hs (by decide))
    obtain ⟨c, r, hr, q1, q2, q3, q4, q5, q6⟩ := hf
    rw [hr] at hd ⊢
    refine ⟨⟨3, i, [], [], []⟩, ?_⟩
    unfold headR
    rw [pre_no _ _ (Ne.symm q1), pre_no _ _ (Ne.symm q2), pre_no _ _ (Ne.symm q3), pre_no _ _ (Ne.symm q4), pre_no _ _ (Ne.symm q5), pre_no _ _ (Ne.symm q6), hd]
    rfl
  rw [if_neg k3]
  by_cases k5 : k = 5
  · rw [if_pos k5]
    obtain ⟨y, hy, _⟩ := hmany (h16 (.inl k5)) 93 none (.inl rfl) (fun kl h => by cases h)
    simp only [Option.isSome_none] at hy
    refine ⟨⟨5, 0, [], y.2, y.1⟩, ?_⟩
    have he : 91 :: (partsL none (l.map (litR m)) ++ [93]) ++ t = 91 :: (partsL none (l.map (litR m)) ++ 93 :: t) := by simp
    rw [he]
    unfold headR
    rw [pre_no _ _ (by decide), pre_no _ _ (by decide), pre_no _ _ (by decide), pre_no _ _ (by decide)]
    simp only [Bool.false_eq_true, if_false, List.isPrefixOf, beq_self_eq_true, Bool.and_self, if_true, List.drop_succ_cons, List.drop_zero]
    rw [hy]
  rw [if_neg k5]
  by_cases k6 : k = 6
  · rw [if_pos k6]
    obtain ⟨g1, g2⟩ := h6 k6
    obtain ⟨y, hy, hy1⟩ := hmany (h16 (.inr k6)) 125 (some ks) (.inr rfl) (fun kl h => by injection h with h; subst h; exact g1)
    simp only [Option.isSome_some] at hy
    refine ⟨⟨6, 0, [], y.2, y.1⟩, ?_⟩
    have he : 123 :: (partsL (some ks) (l.map (litR m)) ++ [125]) ++ t = 123 :: (partsL (some ks) (l.map (litR m)) ++ 125 :: t) := by simp
    rw [he]
    unfold headR
    rw [pre_no _ _ (by decide), pre_no _ _ (by decide), pre_no _ _ (by decide), pre_no _ _ (by decide), pre_no _ _ (by decide)]
    simp only [Bool.false_eq_true, if_false, List.isPrefixOf, beq_self_eq_true, Bool.and_self, if_true, List.drop_succ_cons, List.drop_zero]
    rw [hy]
    simp only
    rw [if_pos (show up y.1 = true by rw [hy1]; exact hup ks g2)]
  rw [if_neg k6]
  have he : quoteL s ++ t = 34 :: (escR s ++ 34 :: t) := by simp [quoteL]
  rw [he]
  refine ⟨⟨4, 0, againR s, [], []⟩, ?_⟩
  unfold headR
  rw [pre_no _ _ (by decide), pre_no _ _ (by decide), pre_no _ _ (by decide)]
  simp only [Bool.false_eq_true, if_false, List.isPrefixOf, beq_self_eq_true, Bool.and_self, if_true, List.drop_succ_cons, List.drop_zero]
  rw [quote_full s t _ (by simp; omega)]
/-- A value's literal is read again. -/
theorem readV_full (up : List (List UInt8) → Bool) (hup : ∀ ks, risingK ks = true → up (ks.map againR) = true) : ∀ (left m deep : Nat) (d : VN (VT m)) (t : List UInt8), deep + left = 16 → checkV (m + 1) deep d = 0 → NumV (m + 1) d → endsNum t →
    ∃ v, readV up left (litR (m + 1) d ++ t) = .ok v t := by
  intro left
  induction left with
  | zero =>
    intro m deep d t hd hc hn ht
    exact head_full up hup _ d deep t hc hn ht (fun h => absurd (by omega) h)
  | succ l ih =>
    intro m deep d t hd hc hn ht
    refine head_full up hup _ d deep t hc hn ht (fun _ close ks hcl hk => ?_)
    obtain ⟨k, i, s, xs, kk⟩ := d
    obtain ⟨_, hel⟩ := check_parts hc
    obtain ⟨_, hnn⟩ := hn
    refine many_full (readV up l) close hcl xs ks t hk (fun x hx t ht => ?_)
    cases m with
    | zero => exact x.elim
    | succ m => exact ih m (deep + 1) x t (by omega) (hel x hx) (hnn x hx) ht
theorem again_ascii : ∀ l : List UInt8, (∀ c ∈ l, 0 < c.toNat ∧ c.toNat < 128) → againR l = l := by
  intro l
  induction l with
  | nil => intro _; simp [againR, charsR_nil]
  | cons c l ih =>
    intro h
    obtain ⟨h1, h2⟩ := h c (List.mem_cons_self ..)
    have hi := ih fun x hx => h x (List.mem_cons_of_mem _ hx)
    have hb : badC (c.toNat : Int) = false := by simp [badC]; omega
    have hu : u8 c.toNat = c := by unfold u8; simp
    have he : encL (c.toNat : Int) = [c] := by
      unfold encL; rw [hb]; simp only [Bool.false_eq_true, if_false]
      unfold encR
      rw [show ((c.toNat : Int)).toNat = c.toNat from rfl, if_pos h2, hu]
    have hc := chars_enc (c.toNat : Int) (by omega) hb l
    rw [he] at hc
    unfold againR
    rw [show c :: l = [c] ++ l from rfl, hc, List.flatMap_cons, he]
    exact congrArg _ hi
theorem name_ascii {k : List UInt8} (h : isName k = true) : ∀ c ∈ k, 0 < c.toNat ∧ c.toNat < 128 := by
  cases k with
  | nil => intro c hc; cases hc
  | cons c0 r =>
    rw [isName_cons] at h
    simp only [Bool.and_eq_true, Bool.not_eq_true'] at h
    intro c hc
    have h1 : notName c = false := by
      rcases Bool.eq_false_or_eq_true (notName c) with h2 | h2
      · have h3 := List.any_eq_true.2 ⟨c, hc, h2⟩
        rw [h.2] at h3; cases h3
      · exact h2
    have := allBytes (fun c => notName c || (decide (0 < c.toNat) && decide (c.toNat < 128))) (by decide +kernel) c
    simp [h1] at this
    exact this
theorem again_rising {ks : List (List UInt8)} (h : risingK ks = true) : ks.map againR = ks := by
  have : ∀ k ∈ ks, againR k = k := by
    intro k hk
    obtain ⟨j, hj, e⟩ := List.getElem_of_mem hk
    have h1 := List.all_eq_true.1 h j (List.mem_range.2 hj)
    have hx : ks[j]? = some k := by rw [List.getElem?_eq_getElem hj, e]
    unfold upAt at h1
    rw [hx] at h1
    simp only [Bool.and_eq_true] at h1
    exact again_ascii k (name_ascii h1.1)
  rw [List.map_congr_left this]; simp
/-- What literal.Read reads of a value's literal. -/
theorem readR_full {m : Nat} (d : VN (VT m)) (hc : checkV (m + 1) 0 d = 0) (hn : NumV (m + 1) d) : ∃ v, readR risingK (litR (m + 1) d) = .ok v [] := by
  obtain ⟨v, hv⟩ := readV_full risingK (fun ks h => by rw [again_rising h]; exact h) 16 m 0 d [] rfl hc hn (fun c hc => by cases hc)
  rw [List.append_nil] at hv
  exact ⟨v, by unfold readR; rw [hv]; rfl⟩
end Go.Proofs.YtdnmgpidfjkiaaaDoor

namespace Go.Proofs.YtdnmgpidfjkiaaaDoor
set_option linter.unusedVariables false
set_option linter.unusedSimpArgs false

theorem pre_more {p r : List UInt8} (q : List UInt8) (h : p.isPrefixOf r = true) : p.isPrefixOf (r ++ q) = true := by
  rw [List.isPrefixOf_iff_prefix] at h ⊢
  exact h.trans (List.prefix_append r q)
theorem drop_moreQ {p r : List UInt8} (q : List UInt8) (h : p.isPrefixOf r = true) : (r ++ q).drop p.length = r.drop p.length ++ q := by
  have := (List.isPrefixOf_iff_prefix.1 h).length_le
  rw [List.drop_append_of_le_length this]
theorem drop_one {c : UInt8} {r : List UInt8} (q : List UInt8) (h : [c].isPrefixOf r = true) : (r ++ q).drop 1 = r.drop 1 ++ q := drop_moreQ (p := [c]) q h
theorem str_app {f : Nat} {r s t : List UInt8} (h : strR f r = some (s, t)) (hf : r.length ≤ f) (f' : Nat) (q : List UInt8) (hf' : (r ++ q).length ≤ f') : strR f' (r ++ q) = some (s, t ++ q) := by
  have hb := str_back f r s t h
  have hl : r.length = (escR s).length + (t.length + 1) := by rw [hb]; simp
  have h1 := quote_full s t f (by omega)
  rw [← hb, h] at h1
  simp at h1
  have h2 := quote_full s (t ++ q) f' (by simp at hf'; omega)
  rw [← h1] at h2
  have : r ++ q = escR s ++ 34 :: (t ++ q) := by rw [hb]; simp
  rw [this]; exact h2
theorem dig_app {r t : List UInt8} {n : Int} (h : digR r = some (n, t)) (ht : t ≠ []) (q : List UInt8) : digR (r ++ q) = some (n, t ++ q) := by
  unfold digR at h ⊢
  have hr : r ≠ [] := by
    rintro rfl
    simp at h
    exact ht (by simpa using h.2.2)
  have hb : [32].isPrefixOf (r ++ q) = [32].isPrefixOf r := by
    cases r with
    | nil => exact absurd rfl hr
    | cons c r => simp [List.isPrefixOf]
  have h1 : (if [32].isPrefixOf r = true then (r ++ q).drop 1 else r ++ q) = (if [32].isPrefixOf r = true then r.drop 1 else r) ++ q := by
    split
    · rename_i h2; exact drop_moreQ q h2
    · rfl
  simp only [hb, h1]
  simp only at h
  generalize (if [32].isPrefixOf r = true then r.drop 1 else r) = r1 at h ⊢
  split at h
  · rename_i hc
    simp at h
    obtain ⟨h2, h3⟩ := h
    have hcut := takeWhile_cut signD r1
    rw [h3] at hcut
    have hne : ∀ c, t.head? = some c → signD c = false := by
      intro c hc2
      cases t with
      | nil => simp at hc2
      | cons c' t =>
        simp at hc2; subst hc2
        rcases hs : signD c' with _ | _
        · rfl
        · exfalso
          have hall : ∀ x ∈ r1.takeWhile signD, signD x = true := fun x hx => by
            have := List.all_takeWhile (p := signD) (l := r1)
            rw [List.all_eq_true] at this
            exact this x hx
          have : (r1.takeWhile signD ++ c' :: t).takeWhile signD = r1.takeWhile signD ++ (c' :: t).takeWhile signD := by
            rw [List.takeWhile_append_of_pos hall]
          rw [← hcut] at this
          simp [hs] at this
    have htw : (r1 ++ q).takeWhile signD = r1.takeWhile signD := by
      have hall : ∀ x ∈ r1.takeWhile signD, signD x = true := fun x hx => by
        have := List.all_takeWhile (p := signD) (l := r1)
        rw [List.all_eq_true] at this
        exact this x hx
      have := takeWhile_all signD (r1.takeWhile signD) (t ++ q) hall (by
        intro c hc2
        cases t with
        | nil => exact absurd rfl ht
        | cons c' t => exact hne c (by simpa using hc2))
      rw [← List.append_assoc, ← hcut] at this
      exact this
    rw [htw, if_pos hc]
    have : (r1 ++ q).drop (r1.takeWhile signD).length = t ++ q := by
      have hle : (r1.takeWhile signD).length ≤ r1.length := by rw [congrArg List.length hcut]; simp
      rw [List.drop_append_of_le_length hle, h3]
    rw [this]; simp [h2]
  · exact absurd h (by simp)
theorem key_app {rec_ : Bool} {r r1 : List UInt8} {ks : List (List UInt8)} (h : keyR rec_ r = some (ks, r1)) (q : List UInt8) : keyR rec_ (r ++ q) = some (ks, r1 ++ q) := by
  unfold keyR at h ⊢
  cases rec_ with
  | false => simp at h ⊢; exact ⟨h.1, by rw [h.2]⟩
  | true =>
    simp only [if_true] at h ⊢
    split at h
    · rename_i hp
      rw [if_pos (pre_more q hp), drop_one q hp]
      split at h
      · exact absurd h (by simp)
      · rename_i k t hs
        split at h
        · rename_i hc
          simp at h
          obtain ⟨h1, h2⟩ := h
          have hl : (r.drop 1).length ≤ r.length := by simp
          rw [str_app hs hl (r ++ q).length q (by simp)]
          simp only
          rw [if_pos (pre_more q hc)]
          rw [drop_one q hc, h1]
          simp [h2]
        · exact absurd h (by simp)
    · exact absurd h (by simp)
/-- A reader that what comes behind does not turn. -/
structure Steady {α : Type} (rv : List UInt8 → Out α) : Prop where
  nil : rv [] = .bad 33
  ok : ∀ r x t, rv r = .ok x t → t ≠ [] → ∀ q, rv (r ++ q) = .ok x (t ++ q)
  deep : ∀ r, rv r = .bad 42 → ∀ q, rv (r ++ q) = .bad 42
  bad : ∀ r e, rv r = .bad e → e = 33 ∨ e = 42
structure SteadyM {α : Type} (rm : List UInt8 → Out α) : Prop where
  ok : ∀ r x t, rm r = .ok x t → ∀ q, rm (r ++ q) = .ok x (t ++ q)
  deep : ∀ r, rm r = .bad 42 → ∀ q, rm (r ++ q) = .bad 42
  bad : ∀ r e, rm r = .bad e → e = 33 ∨ e = 42
theorem pre_ne {c : UInt8} {p r : List UInt8} (h : (c :: p).isPrefixOf r = true) : r ≠ [] := by
  rintro rfl; simp at h
theorem items_ok {α : Type} {rv : List UInt8 → Out α} (hs : Steady rv) {rec_ : Bool} {close : UInt8} : ∀ (f : Nat) (r t : List UInt8) (y : List (List UInt8) × List α), itemsR rv rec_ close f r = .ok y t → ∀ (f' : Nat) (q : List UInt8), f ≤ f' → itemsR rv rec_ close f' (r ++ q) = .ok y (t ++ q) := by
  intro f
  induction f with
  | zero => intro r t y h; exact absurd h (by simp [itemsR])
  | succ f ih =>
    intro r t y h f' q hf
    obtain ⟨g, rfl⟩ : ∃ g, f' = g + 1 := ⟨f' - 1, by omega⟩
    unfold itemsR at h ⊢
    split at h
    · exact absurd h (by simp)
    · rename_i ks r1 hk
      rw [key_app hk q]
      simp only
      split at h
      · exact absurd h (by simp)
      · rename_i x r2 hv
        split at h
        · rename_i hc
          rw [hs.ok r1 x r2 hv (pre_ne hc) q]
          simp only
          rw [if_pos (pre_more q hc)]
          have h2 := drop_one q hc
          rw [h2]
          simp at h ⊢
          exact ⟨h.1, by rw [h.2]⟩
        · rename_i hc
          split at h
          · rename_i hc2
            have hne := pre_ne hc2
            rw [hs.ok r1 x r2 hv hne q]
            simp only
            have hcq : ¬ [close].isPrefixOf (r2 ++ q) = true := by
              cases r2 with
              | nil => exact absurd rfl hne
              | cons c r2 => simpa [List.isPrefixOf] using hc
            rw [if_neg hcq, if_pos (pre_more q hc2)]
            have h2 := drop_one q hc2
            rw [h2]
            split at h
            · exact absurd h (by simp)
            · rename_i z r3 hi
              rw [ih _ _ _ hi g q (by omega)]
              simp at h ⊢
              exact ⟨h.1, by rw [h.2]⟩
          · exact absurd h (by simp)
theorem items_deep {α : Type} {rv : List UInt8 → Out α} (hs : Steady rv) {rec_ : Bool} {close : UInt8} : ∀ (f : Nat) (r : List UInt8), itemsR rv rec_ close f r = .bad 42 → ∀ (f' : Nat) (q : List UInt8), f ≤ f' → itemsR rv rec_ close f' (r ++ q) = .bad 42 := by
  intro f
  induction f with
  | zero => intro r h; exact absurd h (by simp [itemsR])
  | succ f ih =>
    intro r h f' q hf
    obtain ⟨g, rfl⟩ : ∃ g, f' = g + 1 := ⟨f' - 1, by omega⟩
    unfold itemsR at h ⊢
    split at h
    · exact absurd h (by simp)
    · rename_i ks r1 hk
      rw [key_app hk q]
      simp only
      split at h
      · rename_i e hv
        simp at h
        subst h
        rw [hs.deep r1 hv q]
      · rename_i x r2 hv
        split at h
        · exact absurd h (by simp)
        · rename_i hc
          split at h
          · rename_i hc2
            have hne := pre_ne hc2
            rw [hs.ok r1 x r2 hv hne q]
            simp only
            have hcq : ¬ [close].isPrefixOf (r2 ++ q) = true := by
              cases r2 with
              | nil => exact absurd rfl hne
              | cons c r2 => simpa [List.isPrefixOf] using hc
            rw [if_neg hcq, if_pos (pre_more q hc2)]
            have h2 := drop_one q hc2
            rw [h2]
            split at h
            · rename_i e hi
              simp at h
              subst h
              rw [ih _ hi g q (by omega)]
            · exact absurd h (by simp)
          · exact absurd h (by simp)
theorem items_bad {α : Type} {rv : List UInt8 → Out α} (hs : Steady rv) {rec_ : Bool} {close : UInt8} : ∀ (f : Nat) (r : List UInt8) (e : Int), itemsR rv rec_ close f r = .bad e → e = 33 ∨ e = 42 := by
  intro f
  induction f with
  | zero => intro r e h; simp [itemsR] at h; exact .inl h.symm
  | succ f ih =>
    intro r e h
    unfold itemsR at h
    split at h
    · simp at h; exact .inl h.symm
    · rename_i ks r1 hk
      split at h
      · rename_i e' hv
        simp at h; subst h
        exact hs.bad r1 _ hv
      · split at h
        · exact absurd h (by simp)
        · split at h
          · split at h
            · rename_i e' hi
              simp at h; subst h
              exact ih _ _ hi
            · exact absurd h (by simp)
          · simp at h; exact .inl h.symm
theorem items_nil {α : Type} {rv : List UInt8 → Out α} (hs : Steady rv) (rec_ : Bool) (close : UInt8) (f : Nat) : itemsR rv rec_ close (f + 1) [] = .bad 33 := by
  unfold itemsR
  cases rec_ with
  | true => simp [keyR]
  | false => simp [keyR, hs.nil]
theorem many_steady {α : Type} {rv : List UInt8 → Out α} (hs : Steady rv) (rec_ : Bool) (close : UInt8) : SteadyM (manyR rv rec_ close) := by
  refine ⟨?_, ?_, ?_⟩
  · intro r x t h q
    unfold manyR at h ⊢
    split at h
    · rename_i hc
      rw [if_pos (pre_more q hc)]
      have h2 := drop_one q hc
      rw [h2]
      simp at h ⊢
      exact ⟨h.1, by rw [h.2]⟩
    · rename_i hc
      have hne : r ≠ [] := by
        rintro rfl
        rw [items_nil hs] at h
        exact absurd h (by simp)
      have hcq : ¬ [close].isPrefixOf (r ++ q) = true := by
        cases r with
        | nil => exact absurd rfl hne
        | cons c r2 => simpa [List.isPrefixOf] using hc
      rw [if_neg hcq]
      exact items_ok hs _ _ _ _ h _ q (by simp)
  · intro r h q
    unfold manyR at h ⊢
    split at h
    · exact absurd h (by simp)
    · rename_i hc
      have hne : r ≠ [] := by
        rintro rfl
        rw [items_nil hs] at h
        exact absurd h (by simp)
      have hcq : ¬ [close].isPrefixOf (r ++ q) = true := by
        cases r with
        | nil => exact absurd rfl hne
        | cons c r2 => simpa [List.isPrefixOf] using hc
      rw [if_neg hcq]
      exact items_deep hs _ _ h _ q (by simp)
  · intro r e h
    unfold manyR at h
    split at h
    · exact absurd h (by simp)
    · exact items_bad hs _ _ _ h
theorem word_more {w : List UInt8} {c : UInt8} {r : List UInt8} (q : List UInt8) (h : w.isPrefixOf (c :: r) = false) (hw : ∃ d v, w = d :: v ∧ d ≠ c) : w.isPrefixOf (c :: r ++ q) = false := by
  obtain ⟨d, v, rfl, hd⟩ := hw
  exact pre_no _ _ hd
/-- The heads: by the first octet. -/
theorem head_of {α : Type} (up : List (List UInt8) → Bool) (many : Bool → UInt8 → List UInt8 → Out (List (List UInt8) × List α)) (c : UInt8) (r : List UInt8) :
    headR up many (c :: r) =
      if c = 110 then (if [110, 117, 108, 108].isPrefixOf (c :: r) then .ok ⟨0, 0, [], [], []⟩ ((c :: r).drop 4) else .bad 33)
      else if c = 102 then (if [102, 97, 108, 115, 101].isPrefixOf (c :: r) then .ok ⟨1, 0, [], [], []⟩ ((c :: r).drop 5) else .bad 33)
      else if c = 116 then (if [116, 114, 117, 101].isPrefixOf (c :: r) then .ok ⟨2, 0, [], [], []⟩ ((c :: r).drop 4) else .bad 33)
      else if c = 34 then (match strR (c :: r).length r with | none => .bad 33 | some (s, t) => .ok ⟨4, 0, s, [], []⟩ t)
      else if c = 91 then (match many false 93 r with | .bad e => .bad e | .ok x t => .ok ⟨5, 0, [], x.2, x.1⟩ t)
      else if c = 123 then (match many true 125 r with | .bad e => .bad e | .ok x t => if up x.1 then .ok ⟨6, 0, [], x.2, x.1⟩ t else .bad 33)
      else (match digR (c :: r) with | none => .bad 33 | some (n, t) => .ok ⟨3, n, [], [], []⟩ t) := by
  have hdig : signD c = false → c ≠ 32 → digR (c :: r) = none := by
    intro h1 h2
    unfold digR
    have : [32].isPrefixOf (c :: r) = false := pre_no _ _ (fun e => h2 e.symm)
    have h3 : (pParse []).2 ≠ 0 := by decide
    simp [this, h1, h3]
  unfold headR
  by_cases h1 : c = 110
  · subst h1
    rw [if_pos rfl]
    split
    · rfl
    · rw [if_neg (by rw [pre_no _ _ (by decide)]; simp), if_neg (by rw [pre_no _ _ (by decide)]; simp), if_neg (by rw [pre_no _ _ (by decide)]; simp), if_neg (by rw [pre_no _ _ (by decide)]; simp), if_neg (by rw [pre_no _ _ (by decide)]; simp), hdig (by decide) (by decide)]
  rw [if_neg h1, if_neg (by rw [pre_no _ _ (fun e => h1 e.symm)]; simp)]
  by_cases h2 : c = 102
  · subst h2
    rw [if_pos rfl]
    split
    · rfl
    · rw [if_neg (by rw [pre_no _ _ (by decide)]; simp), if_neg (by rw [pre_no _ _ (by decide)]; simp), if_neg (by rw [pre_no _ _ (by decide)]; simp), if_neg (by rw [pre_no _ _ (by decide)]; simp), hdig (by decide) (by decide)]
  rw [if_neg h2, if_neg (by rw [pre_no _ _ (fun e => h2 e.symm)]; simp)]
  by_cases h3 : c = 116
  · subst h3
    rw [if_pos rfl]
    split
    · rfl
    · rw [if_neg (by rw [pre_no _ _ (by decide)]; simp), if_neg (by rw [pre_no _ _ (by decide)]; simp), if_neg (by rw [pre_no _ _ (by decide)]; simp), hdig (by decide) (by decide)]
  rw [if_neg h3, if_neg (by rw [pre_no _ _ (fun e => h3 e.symm)]; simp)]
  by_cases h4 : c = 34
  · subst h4
    rw [if_pos rfl, if_pos (by simp [List.isPrefixOf])]
    rfl
  rw [if_neg h4, if_neg (by rw [pre_no _ _ (fun e => h4 e.symm)]; simp)]
  by_cases h5 : c = 91
  · subst h5
    rw [if_pos rfl, if_pos (by simp [List.isPrefixOf])]
    rfl
  rw [if_neg h5, if_neg (by rw [pre_no _ _ (fun e => h5 e.symm)]; simp)]
  by_cases h6 : c = 123
  · subst h6
    rw [if_pos rfl, if_pos (by simp [List.isPrefixOf])]
    rfl
  rw [if_neg h6, if_neg (by rw [pre_no _ _ (fun e => h6 e.symm)]; simp)]
  all_goals rfl
theorem head_nil {α : Type} (up : List (List UInt8) → Bool) (many : Bool → UInt8 → List UInt8 → Out (List (List UInt8) × List α)) : headR up many [] = .bad 33 := by
  unfold headR
  have : digR [] = none := by decide
  simp [this]
/-- What stands in quotes or brackets is read as it is, whatever stands behind it. -/
theorem head_closed {α : Type} (up : List (List UInt8) → Bool) {many : Bool → UInt8 → List UInt8 → Out (List (List UInt8) × List α)} (hm : ∀ b c, SteadyM (many b c)) {c : UInt8} {r t : List UInt8} {x : VN α} (hc : c = 34 ∨ c = 91 ∨ c = 123) (h : headR up many (c :: r) = .ok x t) (q : List UInt8) :
    headR up many (c :: r ++ q) = .ok x (t ++ q) := by
  rw [List.cons_append]
  rw [head_of] at h ⊢
  rcases hc with rfl | rfl | rfl
  · simp only [show (34 : UInt8) ≠ 110 by decide, show (34 : UInt8) ≠ 102 by decide, show (34 : UInt8) ≠ 116 by decide, if_false, if_true] at h ⊢
    split at h
    · exact absurd h (by simp)
    · rename_i s t' hs
      rw [str_app hs (by simp) _ q (by simp)]
      simp at h ⊢
      exact ⟨h.1, by rw [h.2]⟩
  · simp only [show (91 : UInt8) ≠ 110 by decide, show (91 : UInt8) ≠ 102 by decide, show (91 : UInt8) ≠ 116 by decide, show (91 : UInt8) ≠ 34 by decide, if_false, if_true] at h ⊢
    split at h
    · exact absurd h (by simp)
    · rename_i y t' hy
      rw [(hm _ _).ok _ _ _ hy q]
      simp at h ⊢
      exact ⟨h.1, by rw [h.2]⟩
  · simp only [show (123 : UInt8) ≠ 110 by decide, show (123 : UInt8) ≠ 102 by decide, show (123 : UInt8) ≠ 116 by decide, show (123 : UInt8) ≠ 34 by decide, show (123 : UInt8) ≠ 91 by decide, if_false, if_true] at h ⊢
    split at h
    · exact absurd h (by simp)
    · rename_i y t' hy
      rw [(hm _ _).ok _ _ _ hy q]
      simp only
      split at h
      · rename_i hu
        rw [if_pos hu]
        simp at h ⊢
        exact ⟨h.1, by rw [h.2]⟩
      · exact absurd h (by simp)
theorem head_deep {α : Type} (up : List (List UInt8) → Bool) {many : Bool → UInt8 → List UInt8 → Out (List (List UInt8) × List α)} (hm : ∀ b c, SteadyM (many b c)) {r : List UInt8} (h : headR up many r = .bad 42) (q : List UInt8) :
    headR up many (r ++ q) = .bad 42 := by
  cases r with
  | nil => rw [head_nil] at h; exact absurd h (by simp)
  | cons c r =>
    rw [List.cons_append]
    rw [head_of] at h ⊢
    by_cases h1 : c = 110
    · rw [if_pos h1] at h; split at h <;> exact absurd h (by simp)
    rw [if_neg h1] at h ⊢
    by_cases h2 : c = 102
    · rw [if_pos h2] at h; split at h <;> exact absurd h (by simp)
    rw [if_neg h2] at h ⊢
    by_cases h3 : c = 116
    · rw [if_pos h3] at h; split at h <;> exact absurd h (by simp)
    rw [if_neg h3] at h ⊢
    by_cases h4 : c = 34
    · rw [if_pos h4] at h; split at h <;> exact absurd h (by simp)
    rw [if_neg h4] at h ⊢
    by_cases h5 : c = 91
    · rw [if_pos h5] at h ⊢
      split at h
      · rename_i e hy
        simp at h; subst h
        rw [(hm _ _).deep _ hy q]
      · exact absurd h (by simp)
    rw [if_neg h5] at h ⊢
    by_cases h6 : c = 123
    · rw [if_pos h6] at h ⊢
      split at h
      · rename_i e hy
        simp at h; subst h
        rw [(hm _ _).deep _ hy q]
      · split at h <;> exact absurd h (by simp)
    rw [if_neg h6] at h ⊢
    split at h <;> exact absurd h (by simp)
theorem head_bad {α : Type} (up : List (List UInt8) → Bool) {many : Bool → UInt8 → List UInt8 → Out (List (List UInt8) × List α)} (hm : ∀ b c, SteadyM (many b c)) {r : List UInt8} {e : Int} (h : headR up many r = .bad e) : e = 33 ∨ e = 42 := by
  cases r with
  | nil => rw [head_nil] at h; simp at h; exact .inl h.symm
  | cons c r =>
    rw [head_of] at h
    by_cases h1 : c = 110
    · rw [if_pos h1] at h; split at h <;> simp at h; exact .inl h.symm
    rw [if_neg h1] at h
    by_cases h2 : c = 102
    · rw [if_pos h2] at h; split at h <;> simp at h; exact .inl h.symm
    rw [if_neg h2] at h
    by_cases h3 : c = 116
    · rw [if_pos h3] at h; split at h <;> simp at h; exact .inl h.symm
    rw [if_neg h3] at h
    by_cases h4 : c = 34
    · rw [if_pos h4] at h; split at h <;> simp at h; exact .inl h.symm
    rw [if_neg h4] at h
    by_cases h5 : c = 91
    · rw [if_pos h5] at h
      split at h
      · rename_i e' hy
        simp at h; subst h
        exact (hm _ _).bad _ _ hy
      · exact absurd h (by simp)
    rw [if_neg h5] at h
    by_cases h6 : c = 123
    · rw [if_pos h6] at h
      split at h
      · rename_i e' hy
        simp at h; subst h
        exact (hm _ _).bad _ _ hy
      · split at h <;> simp at h; exact .inl h.symm
    rw [if_neg h6] at h
    split at h <;> simp at h; exact .inl h.symm
theorem head_steady {α : Type} (up : List (List UInt8) → Bool) {many : Bool → UInt8 → List UInt8 → Out (List (List UInt8) × List α)} (hm : ∀ b c, SteadyM (many b c)) : Steady (headR up many) := by
  refine ⟨head_nil up many, ?_, fun r h q => head_deep up hm h q, fun r e h => head_bad up hm h⟩
  intro r x t h ht q
  cases r with
  | nil => rw [head_nil] at h; exact absurd h (by simp)
  | cons c r =>
    by_cases hc : c = 34 ∨ c = 91 ∨ c = 123
    · exact head_closed up hm hc h q
    · rw [not_or, not_or] at hc
      rw [List.cons_append]
      rw [head_of] at h ⊢
      by_cases h1 : c = 110
      · rw [if_pos h1] at h ⊢
        split at h
        · rename_i hp
          rw [← List.cons_append, if_pos (pre_more q hp)]
          have := drop_moreQ q hp
          simp at h this ⊢
          exact ⟨h.1, by rw [this, h.2]⟩
        · exact absurd h (by simp)
      rw [if_neg h1] at h ⊢
      by_cases h2 : c = 102
      · rw [if_pos h2] at h ⊢
        split at h
        · rename_i hp
          rw [← List.cons_append, if_pos (pre_more q hp)]
          have := drop_moreQ q hp
          simp at h this ⊢
          exact ⟨h.1, by rw [this, h.2]⟩
        · exact absurd h (by simp)
      rw [if_neg h2] at h ⊢
      by_cases h3 : c = 116
      · rw [if_pos h3] at h ⊢
        split at h
        · rename_i hp
          rw [← List.cons_append, if_pos (pre_more q hp)]
          have := drop_moreQ q hp
          simp at h this ⊢
          exact ⟨h.1, by rw [this, h.2]⟩
        · exact absurd h (by simp)
      rw [if_neg h3, if_neg hc.1, if_neg hc.2.1, if_neg hc.2.2] at h ⊢
      split at h
      · exact absurd h (by simp)
      · rename_i n t' hd
        simp at h
        obtain ⟨h4, rfl⟩ := h
        rw [← List.cons_append, dig_app hd ht q]
        simp [h4]
theorem none_steady {α : Type} : ∀ (b : Bool) (c : UInt8), SteadyM (fun (_ : List UInt8) => (Out.bad 42 : Out (List (List UInt8) × List α))) :=
  fun _ _ => ⟨fun r x t h => absurd h (by simp), fun r h q => rfl, fun r e h => by simp at h; exact .inr h.symm⟩
theorem readV_many (up : List (List UInt8) → Bool) (left : Nat) (hs : ∀ l, l < left → Steady (readV up l)) : ∃ many : Bool → UInt8 → List UInt8 → Out (List (List UInt8) × List (VT left)), readV up left = headR up many ∧ ∀ b c, SteadyM (many b c) := by
  cases left with
  | zero => exact ⟨fun _ _ _ => .bad 42, rfl, none_steady⟩
  | succ l => exact ⟨manyR (α := VT (l + 1)) (readV up l), rfl, fun b c => many_steady (hs l (Nat.lt_succ_self l)) b c⟩
theorem readV_steady (up : List (List UInt8) → Bool) (left : Nat) : Steady (readV up left) := by
  induction left using Nat.strongRecOn with
  | ind left ih =>
    obtain ⟨many, h1, h2⟩ := readV_many up left ih
    rw [h1]
    exact head_steady up h2
/-- A fault is one of syntax, or of depth. -/
theorem readR_bad {up : List (List UInt8) → Bool} {s : List UInt8} {e : Int} (h : readR up s = .bad e) : e = 33 ∨ e = 42 := by
  unfold readR at h
  split at h
  · rename_i e' hv
    simp at h; subst h
    exact (readV_steady up 16).bad _ _ hv
  · split at h
    · exact absurd h (by simp)
    · simp at h; exact .inl h.symm
/-- A proper front of what is read whole, in quotes or brackets, is none. -/
theorem readR_cut {up : List (List UInt8) → Bool} {s : List UInt8} {v : VN (VT 16)} (h : readR up s = .ok v []) (hf : ∃ c r, s = c :: r ∧ (c = 34 ∨ c = 91 ∨ c = 123)) (at_ : Nat) (ha : at_ < s.length) : readR up (s.take at_) = .bad 33 := by
  have hv : readV up 16 s = .ok v [] := by
    unfold readR at h
    split at h
    · exact absurd h (by simp)
    · rename_i v' r hv
      split at h
      · rename_i hr; subst hr; simp at h; subst h; exact hv
      · exact absurd h (by simp)
  have hcut : s.take at_ ++ s.drop at_ = s := List.take_append_drop _ _
  have hne : s.drop at_ ≠ [] := by
    intro e
    have := congrArg List.length e
    simp at this; omega
  generalize s.take at_ = p at hcut ⊢
  generalize s.drop at_ = q at hcut hne
  have hs := readV_steady up 16
  unfold readR
  rcases hp : readV up 16 p with ⟨v', t⟩ | e
  · simp only
    cases t with
    | cons c t => rw [if_neg (by simp)]
    | nil =>
      exfalso
      cases p with
      | nil => rw [hs.nil] at hp; exact absurd hp (by simp)
      | cons c p =>
        obtain ⟨c', r, rfl, hc'⟩ := hf
        have hcc : c = c' := by rw [List.cons_append] at hcut; exact (List.cons.inj hcut).1
        subst hcc
        obtain ⟨many, h1, h2⟩ := readV_many up 16 (fun l _ => readV_steady up l)
        have hp2 := hp
        rw [h1] at hp2
        have := head_closed up h2 hc' hp2 q
        rw [← h1, hcut, hv] at this
        simp at this
        exact hne (by simpa using this.2)
  · simp only
    rcases hs.bad _ _ hp with rfl | rfl
    · rfl
    · exfalso
      have := hs.deep _ hp q
      rw [hcut, hv] at this
      exact absurd this (by simp)
end Go.Proofs.YtdnmgpidfjkiaaaDoor
