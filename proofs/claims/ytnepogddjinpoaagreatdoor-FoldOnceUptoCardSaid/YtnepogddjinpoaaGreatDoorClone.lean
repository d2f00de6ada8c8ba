/-
  slices.Clone: a list's elements in a row of their own (their parts are shared).
-/
import Derived.Test.YtnepogddjinpoaaGreatDoorM1
import Derived.Test.YtnepogddjinpoaaGreatDoorProg
import Derived.WalkKit
import Derived.OwnWalk
import Derived.Deep.AppendLies
import Derived.Laws.AppendOwnNone
import Derived.Lib.LazyBuf
namespace Go.Proofs.YtnepogddjinpoaaGreatDoor
open Go.RowKit
set_option linter.unusedVariables false
set_option linter.unusedSimpArgs false

theorem pick_rows {α : Type} {p : Nat → α → Prop} : ∀ n, (∀ i, i < n → ∃ x, p i x) → ∃ l : List α, l.length = n ∧ ∀ i x, l[i]? = some x → p i x := by
  intro n
  induction n with
  | zero => intro _; exact ⟨[], rfl, fun i x h => by simp at h⟩
  | succ n ih =>
    intro h
    obtain ⟨l, hl, hp⟩ := ih fun i hi => h i (by omega)
    obtain ⟨x, hx⟩ := h n (by omega)
    refine ⟨l ++ [x], by simp [hl], fun i y hy => ?_⟩
    rcases Nat.lt_or_ge i n with h1 | h1
    · rw [List.getElem?_append_left (by omega)] at hy
      exact hp i y hy
    · have h2 := (List.getElem?_eq_some_iff.1 hy).1
      simp at h2
      obtain rfl : i = n := by omega
      rw [List.getElem?_append_right (by omega), hl] at hy
      simp at hy
      subst hy; exact hx
theorem flat_at {size : Nat} {es : List (List Value)} (hs : ∀ c ∈ es, c.length = size) (hp : 0 < size) {j : Nat} {u : Value} (h : es.flatten[j]? = some u) : ∃ c, es[j / size]? = some c ∧ c[j % size]? = some u := by
  have h1 := (List.getElem?_eq_some_iff.1 h).1
  rw [flat_len hs] at h1
  have h2 : j / size < es.length := Nat.div_lt_of_lt_mul (by rw [Nat.mul_comm]; exact h1)
  refine ⟨es[j / size], List.getElem?_eq_getElem h2, ?_⟩
  have h3 := flat_get hs (j / size) es[j / size] (j % size) (List.getElem?_eq_getElem h2) (Nat.mod_lt _ hp)
  rw [Nat.div_add_mod'] at h3
  rw [← h3]; exact h
/-- What lies one behind the other, as rows of cells. -/
theorem AtR.rows {α : Type} {R : Rel α} {size : Nat} {U : World → Nat → Prop} {w : World} {a : Option Addr} {l : List α} (h : AtR R size U w a l) (hp : 0 < size) (hl : l ≠ []) :
    ∃ (b off : Nat) (es : List (List Value)), a = some ⟨b, off, none⟩ ∧ b < w.heap.size ∧ U w b ∧ es.length = l.length ∧ (∀ c ∈ es, c.length = size) ∧ (∀ j u, es.flatten[j]? = some u → w.cell? ⟨b, off + j, none⟩ = some u) ∧ (∀ (r : Nat) (c : List Value) (x : α), es[r]? = some c → l[r]? = some x → R U w c x) := by
  obtain ⟨x0, hx0⟩ : ∃ x, l[0]? = some x := ⟨_, List.getElem?_eq_getElem (List.length_pos_iff.2 hl)⟩
  obtain ⟨b, off, _, ha, hb, hu, _⟩ := h 0 x0 hx0
  have each : ∀ i, i < l.length → ∃ vs : List Value, vs.length = size ∧ (∀ t u, vs[t]? = some u → w.cell? ⟨b, off + i * size + t, none⟩ = some u) ∧ ∀ x, l[i]? = some x → R U w vs x := by
    intro i hi
    obtain ⟨b2, off2, vs, ha2, _, _, h1, h2, h3⟩ := h i l[i] (List.getElem?_eq_getElem hi)
    rw [ha] at ha2
    injection ha2 with ha2
    injection ha2 with e1 e2
    subst e1; subst e2
    refine ⟨vs, h1, h2, fun x hx => ?_⟩
    rw [List.getElem?_eq_getElem hi] at hx
    injection hx with hx
    subst hx; exact h3
  obtain ⟨es, hes, hp2⟩ := pick_rows l.length each
  have hsz : ∀ c ∈ es, c.length = size := by
    intro c hc
    obtain ⟨j, hj, e⟩ := List.getElem_of_mem hc
    exact (hp2 j c (by rw [List.getElem?_eq_getElem hj, e])).1
  refine ⟨b, off, es, ha, hb, hu, hes, hsz, fun j u hu2 => ?_, fun r c x hc hx => (hp2 r c hc).2.2 x hx⟩
  obtain ⟨c, h1, h2⟩ := flat_at hsz hp hu2
  have := (hp2 _ c h1).2.1 _ u h2
  rw [Nat.add_assoc, Nat.div_add_mod'] at this
  exact this
theorem AtR.none_nil {α : Type} {R : Rel α} {size : Nat} {U : World → Nat → Prop} {w : World} {l : List α} (h : AtR R size U w none l) : l = [] := by
  cases l with
  | nil => rfl
  | cons x l => obtain ⟨_, _, _, ha, _⟩ := h 0 x rfl; cases ha
theorem add_at (b off j : Nat) : (⟨b, off, none⟩ : Addr).add j = ⟨b, off + j, none⟩ := by
  unfold Addr.add; split <;> simp_all
/-- What a list's clone is. -/
def Cloned {α : Type} (R : Rel α) (size : Nat) (e : TypeId) (U : World → Nat → Prop) (w : World) (l : List α) (x : Ending) (w' : World) : Prop :=
  ∃ (v : Value) (es : List (List Value)), x = .returned v ∧ w'.ownsRow w.heap.size e size v es.length es.flatten ∧ es.length = l.length ∧ (∀ c ∈ es, c.length = size) ∧ (∀ (r : Nat) (c : List Value) (x : α), es[r]? = some c → l[r]? = some x → R U w c x) ∧ Below w.heap.size w w'

theorem StrR.cell1 {U : World → Nat → Prop} {w : World} {c : List Value} {x : List UInt8} (h : StrR U w c x) : ∀ u ∈ c, u.oneCell' = true := by
  have h : c = [.string ⟨x.toArray⟩] := h
  subst h; intro u hu; simp at hu; subst hu; rfl
theorem ArgR.cell1 {U : World → Nat → Prop} {w : World} {c : List Value} {x : ArgD} (h : ArgR U w c x) : ∀ u ∈ c, u.oneCell' = true := by
  obtain ⟨a, n, rfl, _⟩ := h
  intro u hu; simp at hu; rcases hu with rfl | rfl | rfl | rfl | rfl <;> rfl
theorem flat_cell1 {α : Type} {l : List α} {es : List (List Value)} (hl : es.length = l.length) (h : ∀ (r : Nat) (c : List Value) (x : α), es[r]? = some c → l[r]? = some x → ∀ u ∈ c, u.oneCell' = true) : ∀ u ∈ es.flatten, u.oneCell' = true := by
  intro u hu
  obtain ⟨c, hc, hu⟩ := List.mem_flatten.1 hu
  obtain ⟨r, hr, e⟩ := List.getElem_of_mem hc
  exact h r c l[r] (by rw [List.getElem?_eq_getElem hr, e]) (List.getElem?_eq_getElem (by omega)) u hu

theorem info_cl_arg : (Tryz.prog.info? 35).map (fun i => (i.zero, i.size, i.bytes)) = some (some (.agg #[.int .i64 0, .string ⟨#[]⟩, .slice none 0 0, .int .i64 0, .string ⟨#[]⟩]), 5, 72) := by kernel_rfl
set_option maxHeartbeats 2000000 in
set_option maxRecDepth 100000 in
theorem clone_arg (U : World → Nat → Prop) (a : Option Addr) (c : Nat) (l : List (ArgD)) (w : World) (h : AtR ArgR 5 U w a l) (hz : l.length * 72 ≤ 140737488351232) :
    Calls Tryz.prog 60 #[.slice a l.length c] w (Cloned ArgR 5 35 U w l) := by
  obtain ⟨i0, hi, hz0, hz1, hz2⟩ := info_parts info_cl_arg
  have hq := fun (W : World) (a : Option Addr) (l c : Nat) => run_eql_slice_nil (P := Tryz.prog) W 31 35 a l c Tryz.underlying31
  cases a with
  | none =>
    have hl := h.none_nil
    subst hl
    go_enter Tryz.func60, Tryz.ntmps60
    go_wp2_with fail
    go_ret
    exact ⟨_, [], rfl, World.ownsRow_nil _ _ _ _, rfl, by simp, by simp, Below.refl _ _⟩
  | some ad =>
    by_cases hl : l = []
    · subst hl
      go_enter Tryz.func60, Tryz.ntmps60
      go_wp2_with fail
      go_ret
      exact ⟨_, [], rfl, World.ownsRow_lit w #[] 0 (Nat.le_refl _) (by decide) rfl, rfl, by simp, by simp, (Below.refl _ _).alloc (Nat.le_refl _) _⟩
    · obtain ⟨b, off, es, ha, hb, hu, hes, hsz, hcell, hR⟩ := h.rows (by decide) hl
      injection ha with ha
      subst ha
      have hlp : 0 < l.length := List.length_pos_iff.2 hl
      have HE := hide hes
      clear hes
      go_enter Tryz.func60, Tryz.ntmps60
      go_wp2_with (at_builtin; refine wpList_append_own _ rfl _ _ 31 rfl w.heap.size 35 i0 (.agg #[.int .i64 0, .string ⟨#[]⟩, .slice none 0 0, .int .i64 0, .string ⟨#[]⟩]) 5 72 Tryz.underlying31 hi hz0 hz1 hz2 rfl (by decide) _ 0 _ rfl (World.ownsRow_lit w #[] 0 (Nat.le_refl _) (by decide) rfl) ⟨b, off, none⟩ l.length c es.flatten rfl (by rw [flat_len hsz, HE.out]) (by intro j u hj; rw [add_at]; exact (World.cell?_alloc_lt w _ ⟨b, off + j, none⟩ hb).trans (hcell j u hj)) (flat_cell1 HE.out (fun r c x h1 h2 => (ArgR.cell1 (hR r c x h1 h2)))) (by unfold maxLen; omega) (by omega) (by simp) ?_; intro v1 w1 hown1 hgrow1 _)
      go_ret
      refine ⟨_, es, rfl, ?_, HE.out, hsz, hR, ((Below.refl _ _).alloc (Nat.le_refl _) _).grown hgrow1 (by simp) (fun k e => ?_)⟩
      · rw [HE.out]; simpa using hown1
      · injection e with e
        have e : w.heap.size = k := e
        omega

theorem info_cl_str : (Tryz.prog.info? 9).map (fun i => (i.zero, i.size, i.bytes)) = some (some (.string ⟨#[]⟩), 1, 16) := by kernel_rfl
set_option maxHeartbeats 2000000 in
set_option maxRecDepth 100000 in
theorem clone_str (U : World → Nat → Prop) (a : Option Addr) (c : Nat) (l : List (List UInt8)) (w : World) (h : AtR StrR 1 U w a l) (hz : l.length * 16 ≤ 140737488351232) :
    Calls Tryz.prog 61 #[.slice a l.length c] w (Cloned StrR 1 9 U w l) := by
  obtain ⟨i0, hi, hz0, hz1, hz2⟩ := info_parts info_cl_str
  have hq := fun (W : World) (a : Option Addr) (l c : Nat) => run_eql_slice_nil (P := Tryz.prog) W 24 9 a l c Tryz.underlying24
  cases a with
  | none =>
    have hl := h.none_nil
    subst hl
    go_enter Tryz.func61, Tryz.ntmps61
    go_wp2_with fail
    go_ret
    exact ⟨_, [], rfl, World.ownsRow_nil _ _ _ _, rfl, by simp, by simp, Below.refl _ _⟩
  | some ad =>
    by_cases hl : l = []
    · subst hl
      go_enter Tryz.func61, Tryz.ntmps61
      go_wp2_with fail
      go_ret
      exact ⟨_, [], rfl, World.ownsRow_lit w #[] 0 (Nat.le_refl _) (by decide) rfl, rfl, by simp, by simp, (Below.refl _ _).alloc (Nat.le_refl _) _⟩
    · obtain ⟨b, off, es, ha, hb, hu, hes, hsz, hcell, hR⟩ := h.rows (by decide) hl
      injection ha with ha
      subst ha
      have hlp : 0 < l.length := List.length_pos_iff.2 hl
      have HE := hide hes
      clear hes
      go_enter Tryz.func61, Tryz.ntmps61
      go_wp2_with (at_builtin; refine wpList_append_own _ rfl _ _ 24 rfl w.heap.size 9 i0 (.string ⟨#[]⟩) 1 16 Tryz.underlying24 hi hz0 hz1 hz2 rfl (by decide) _ 0 _ rfl (World.ownsRow_lit w #[] 0 (Nat.le_refl _) (by decide) rfl) ⟨b, off, none⟩ l.length c es.flatten rfl (by rw [flat_len hsz, HE.out]) (by intro j u hj; rw [add_at]; exact (World.cell?_alloc_lt w _ ⟨b, off + j, none⟩ hb).trans (hcell j u hj)) (flat_cell1 HE.out (fun r c x h1 h2 => (StrR.cell1 (hR r c x h1 h2)))) (by unfold maxLen; omega) (by omega) (by simp) ?_; intro v1 w1 hown1 hgrow1 _)
      go_ret
      refine ⟨_, es, rfl, ?_, HE.out, hsz, hR, ((Below.refl _ _).alloc (Nat.le_refl _) _).grown hgrow1 (by simp) (fun k e => ?_)⟩
      · rw [HE.out]; simpa using hown1
      · injection e with e
        have e : w.heap.size = k := e
        omega

end Go.Proofs.YtnepogddjinpoaaGreatDoor
