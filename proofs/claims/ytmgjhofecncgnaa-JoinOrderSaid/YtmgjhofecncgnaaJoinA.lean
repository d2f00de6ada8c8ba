/-
  package join: right, and whether a slice of states has one that is not.
-/
import Derived.Test.YtmgjhofecncgnaaMem
import Derived.Test.YtmgjhofecncgnaaDec
import Derived.Test.YtmgjhofecncgnaaProg
import Derived.Deep.DeepCutAuto
import Derived.Shelf.Abstract
import Derived.Deep.RegionWith
import Derived.Deep.QuietTactic
import Derived.BigQuiet
import Derived.Laws.ResultCell
import Derived.Test.YtmgjhofecncgnaaStEq
namespace Go.Proofs.Ytmgjhofecncgnaa
open Go.RowKit
set_option linter.unusedVariables false

/-- A state, as the program holds it. -/
structure StV where
  k : Int
  el : ByteArray
  at_ : ByteArray
  d : Int
  pe : ByteArray
  re : ByteArray
  pa : Int
  wo : ByteArray
def StV.cells (s : StV) : Array Value := #[.int .i64 s.k, .string s.el, .string s.at_, .int .u8 s.d, .string s.pe, .string s.re, .int .i64 s.pa, .string s.wo]
/-- A row of states: eight cells each. -/
def StRow (w : World) (r : Nat) (l : List StV) : Prop := ∀ i s, l[i]? = some s → ∀ j u, s.cells[j]? = some u → w.cell? ⟨r, i * 8 + j, none⟩ = some u
theorem StRow.below {w w' : World} {r B : Nat} {l : List StV} (h : StRow w r l) (hb : Below B w w') (hr : r < B) : StRow w' r l :=
  fun i s hs j u hu => by rw [hb.cell (p := ⟨r, i * 8 + j, none⟩) hr]; exact h i s hs j u hu


theorem StRow.at_ {w : World} {r : Nat} {l : List StV} (h : StRow w r l) {i : Nat} {s : StV} (hs : l[i]? = some s) :
    w.cell? ⟨r, i * 8, none⟩ = some (.int .i64 s.k) ∧ w.cell? ⟨r, i * 8 + 1, none⟩ = some (.string s.el) ∧ w.cell? ⟨r, i * 8 + 2, none⟩ = some (.string s.at_) ∧ w.cell? ⟨r, i * 8 + 3, none⟩ = some (.int .u8 s.d)
    ∧ w.cell? ⟨r, i * 8 + 4, none⟩ = some (.string s.pe) ∧ w.cell? ⟨r, i * 8 + 5, none⟩ = some (.string s.re) ∧ w.cell? ⟨r, i * 8 + 6, none⟩ = some (.int .i64 s.pa) ∧ w.cell? ⟨r, i * 8 + 7, none⟩ = some (.string s.wo) :=
  ⟨h i s hs 0 _ rfl, h i s hs 1 _ rfl, h i s hs 2 _ rfl, h i s hs 3 _ rfl, h i s hs 4 _ rfl, h i s hs 5 _ rfl, h i s hs 6 _ rfl, h i s hs 7 _ rfl⟩

theorem below_box (w : World) (cs : Array Value) (t : TypeId) (v0 v1 v2 v3 v4 v5 v6 v7 : Value) (hb : Below w.heap.size w w := Below.refl _ _) : Below w.heap.size w (((((((((w.alloc (.cells cs t)).setCell ⟨w.heap.size, 0, none⟩ v0).setCell ⟨w.heap.size, 1, none⟩ v1).setCell ⟨w.heap.size, 2, none⟩ v2).setCell ⟨w.heap.size, 3, none⟩ v3).setCell ⟨w.heap.size, 4, none⟩ v4).setCell ⟨w.heap.size, 5, none⟩ v5).setCell ⟨w.heap.size, 6, none⟩ v6).setCell ⟨w.heap.size, 7, none⟩ v7) :=
  ((((((((hb.alloc (Nat.le_refl _) _).setCell (p := ⟨w.heap.size, 0, none⟩) (Nat.le_refl _) _).setCell (p := ⟨w.heap.size, 1, none⟩) (Nat.le_refl _) _).setCell (p := ⟨w.heap.size, 2, none⟩) (Nat.le_refl _) _).setCell (p := ⟨w.heap.size, 3, none⟩) (Nat.le_refl _) _).setCell (p := ⟨w.heap.size, 4, none⟩) (Nat.le_refl _) _).setCell (p := ⟨w.heap.size, 5, none⟩) (Nat.le_refl _) _).setCell (p := ⟨w.heap.size, 6, none⟩) (Nat.le_refl _) _).setCell (p := ⟨w.heap.size, 7, none⟩) (Nat.le_refl _) _

theorem Blk.eight {w : World} {g : Nat} {t : TypeId} {v0 v1 v2 v3 v4 v5 v6 v7 : Value} (h : Blk w g t #[v0, v1, v2, v3, v4, v5, v6, v7]) :
    w.cell? ⟨g, 0, none⟩ = some v0 ∧ w.cell? ⟨g, 1, none⟩ = some v1 ∧ w.cell? ⟨g, 2, none⟩ = some v2 ∧ w.cell? ⟨g, 3, none⟩ = some v3 ∧ w.cell? ⟨g, 4, none⟩ = some v4 ∧ w.cell? ⟨g, 5, none⟩ = some v5 ∧ w.cell? ⟨g, 6, none⟩ = some v6 ∧ w.cell? ⟨g, 7, none⟩ = some v7 :=
  ⟨h.cell 0, h.cell 1, h.cell 2, h.cell 3, h.cell 4, h.cell 5, h.cell 6, h.cell 7⟩
theorem below_eight {B g : Nat} {a w : World} {v0 v1 v2 v3 v4 v5 v6 v7 : Value} (h : Below B a w) (hg : B ≤ g) : Below B a ((((((((w.setCell ⟨g, 0, none⟩ v0).setCell ⟨g, 1, none⟩ v1).setCell ⟨g, 2, none⟩ v2).setCell ⟨g, 3, none⟩ v3).setCell ⟨g, 4, none⟩ v4).setCell ⟨g, 5, none⟩ v5).setCell ⟨g, 6, none⟩ v6).setCell ⟨g, 7, none⟩ v7) :=
  (((((((h.setCell (p := ⟨g, 0, none⟩) hg _).setCell (p := ⟨g, 1, none⟩) hg _).setCell (p := ⟨g, 2, none⟩) hg _).setCell (p := ⟨g, 3, none⟩) hg _).setCell (p := ⟨g, 4, none⟩) hg _).setCell (p := ⟨g, 5, none⟩) hg _).setCell (p := ⟨g, 6, none⟩) hg _).setCell (p := ⟨g, 7, none⟩) hg _
def firstErr (ck : StV → Int) (l : List StV) : Int := ((l.map ck).find? (· != 0)).getD 0
def ErrRel (ck : StV → Int) (l : List StV) (k : Nat) : Prop := firstErr ck (l.drop k) = firstErr ck l
theorem ErrRel.bad {ck : StV → Int} {l : List StV} {k : Nat} {s : StV} (h : ErrRel ck l k) (hs : l[k]? = some s) (hc : ck s ≠ 0) : ck s = firstErr ck l := by
  obtain ⟨hk, e⟩ := List.getElem?_eq_some_iff.1 hs
  unfold ErrRel at h
  rw [← h, List.drop_eq_getElem_cons hk, e]
  simp [firstErr, hc]
theorem ErrRel.next {ck : StV → Int} {l : List StV} {k : Nat} {s : StV} (h : ErrRel ck l k) (hs : l[k]? = some s) (hc : ck s = 0) : ErrRel ck l (k + 1) := by
  obtain ⟨hk, e⟩ := List.getElem?_eq_some_iff.1 hs
  unfold ErrRel at h ⊢
  rw [← h, List.drop_eq_getElem_cons hk, e]
  simp [firstErr, hc]
theorem ErrRel.end_ {ck : StV → Int} {l : List StV} {k : Nat} (h : ErrRel ck l k) (hk : l.length ≤ k) : 0 = firstErr ck l := by
  unfold ErrRel at h
  rw [← h, List.drop_eq_nil_of_le hk]
  rfl

set_option maxHeartbeats 1000000 in
set_option maxRecDepth 100000 in
theorem right_gen (ck : StV → Int) (l : List StV) (hck : ∀ (i : Nat) (s : StV), l[i]? = some s → ∀ w, Calls Try.prog 79 #[.agg #[.int .i64 s.k, .string s.el, .string s.at_, .int .u8 s.d, .string s.pe, .string s.re, .int .i64 s.pa, .string s.wo]] w fun e w' => e = .returned (.int .i64 (ck s)) ∧ Below w.heap.size w w')
    (r n cap : Nat) (w : World) (hrow : StRow w r l) (hr : r < w.heap.size) (hn : l.length = n) (hs : n ≤ 4611686018427387903) :
    Calls Try.prog 55 #[.slice (some ⟨r, 0, none⟩) n cap] w fun e w' => e = .returned (.int .i64 (firstErr ck l)) ∧ Below w.heap.size w w' := by
  have HK := hide hck; have HR := hide hrow; have HN := hide hn
  clear hck hrow hn
  go_enter Try.func55, Try.ntmps55
  go_wp2
  go_loopw [8] (fun i wr => ∃ k : Nat, i = .int .i64 (k : Int) ∧ k ≤ n ∧ Below w.heap.size w wr ∧ Hid (ErrRel ck l k)) (fun i _ => n - (intOf i).toNat)
  case atStart => exact ⟨0, rfl, Nat.zero_le _, Below.refl _ _, rfl⟩
  case round =>
    obtain ⟨k, rfl, hk, hb, hrel⟩ := hrel
    by_cases hlt : k < n
    · obtain ⟨s, hs'⟩ : ∃ s, l[k]? = some s := ⟨_, List.getElem?_eq_getElem (by have := HN.out; omega)⟩
      have hcell := (HR.out.below hb hr).at_ hs'
      obtain ⟨q0, q1, q2, q3, q4, q5, q6, q7⟩ := hcell
      have HC := hide (HK.out k s hs')
      have HS := hide hs'
      clear hs'
      go_wp2_with fail
      refine (HC.out _).mono ?_
      rintro e w1 ⟨rfl, hb1⟩
      have hB1 : Below w.heap.size w w1 := hb.trans (((below_box wr _ _ _ _ _ _ _ _ _ _).trans (hb1.mono (by simp))).mono hb.size)
      clear hb1 hb q0 q1 q2 q3 q4 q5 q6 q7
      by_cases hz : ck s = 0
      · have HF := hide (hrel.out.next HS.out hz)
        rw [hz]
        go_wp2_with fail
        go_roundw
        case rel => exact ⟨k + 1, by go_num, by omega, hB1, HF⟩
        case measure => simp [intOf]; omega
      · have HF := hide (hrel.out.bad HS.out hz)
        obtain ⟨c, hc⟩ : ∃ c, ck s = c := ⟨_, rfl⟩
        rw [hc] at HF hz ⊢
        have hz2 : (c != 0) = true := by simpa using hz
        clear hc hz
        go_wp2_with fail
        go_ret
        exact ⟨ret_int HF.out, hB1⟩
    · have HF := hide (hrel.out.end_ (by have := HN.out; omega))
      go_wp2_with fail
      go_ret
      exact ⟨ret_int HF.out, hb⟩
def StV.same (s t : StV) : Bool := sameV s.k s.el s.at_ s.d s.pe s.re s.pa s.wo t.k t.el t.at_ t.d t.pe t.re t.pa t.wo
set_option maxHeartbeats 1000000 in
set_option maxRecDepth 100000 in
theorem differ (s t : StV) (lb r n cap : Nat) (w : World) (hl : w.cell? ⟨lb, 0, none⟩ = some (.slice (some ⟨r, 0, none⟩) (n + 1) cap)) (h1 : lb < w.heap.size) (h2 : r < w.heap.size)
    (hr0 : w.cell? ⟨r, 0, none⟩ = some (.int .i64 t.k)) (hr1 : w.cell? ⟨r, 1, none⟩ = some (.string t.el)) (hr2 : w.cell? ⟨r, 2, none⟩ = some (.string t.at_)) (hr3 : w.cell? ⟨r, 3, none⟩ = some (.int .u8 t.d))
    (hr4 : w.cell? ⟨r, 4, none⟩ = some (.string t.pe)) (hr5 : w.cell? ⟨r, 5, none⟩ = some (.string t.re)) (hr6 : w.cell? ⟨r, 6, none⟩ = some (.int .i64 t.pa)) (hr7 : w.cell? ⟨r, 7, none⟩ = some (.string t.wo)) : Calls Try.prog 57 #[.agg #[.int .i64 s.k, .string s.el, .string s.at_, .int .u8 s.d, .string s.pe, .string s.re, .int .i64 s.pa, .string s.wo], .pointer (some ⟨lb, 0, none⟩)] w fun e w' => e = .returned (.bool (!s.same t)) ∧ Below w.heap.size w w' := by
  go_enter Try.func57, Try.ntmps57
  go_wp2_with fail
  go_quiet (fail)
  go_wp2_with fail
  go_ret
  exact ⟨rfl, below_drewN ((Below.refl _ _).alloc (Nat.le_refl _) _) _⟩

/-- A function value on states answers p, whatever was made since. -/
def PredS (P : Program) (g : Nat) (lb : Array Value) (p : StV → Bool) (w : World) : Prop :=
  ∀ (W : World) (x : StV), Below w.heap.size w W → Calls P g (#[.agg #[.int .i64 x.k, .string x.el, .string x.at_, .int .u8 x.d, .string x.pe, .string x.re, .int .i64 x.pa, .string x.wo]] ++ lb) W fun e w' => e = .returned (.bool (p x)) ∧ Below W.heap.size W w'
def idxS (p : StV → Bool) (l : List StV) : Int := (l.findIdx? p).elim (-1) (fun i => (i : Int))
theorem idxS_any (p : StV → Bool) (l : List StV) : decide (0 ≤ idxS p l) = l.any p := by
  unfold idxS
  cases h : l.findIdx? p with
  | none =>
    rw [List.findIdx?_eq_none_iff] at h
    have : l.any p = false := by rw [List.any_eq_false]; intro x hx; simp [h x hx]
    rw [this]; rfl
  | some i =>
    have hi : ∃ h1 : i < l.length, p l[i] = true := by
      rw [List.findIdx?_eq_some_iff_getElem] at h
      obtain ⟨h1, h2, _⟩ := h
      exact ⟨h1, h2⟩
    have : l.any p = true := by
      rw [List.any_eq_true]
      obtain ⟨h1, h2⟩ := hi
      exact ⟨l[i], List.getElem_mem h1, h2⟩
    rw [this]
    simp
def NoneToS (p : StV → Bool) (l : List StV) (k : Nat) : Prop := ∀ (j : Nat) (c : StV), j < k → l[j]? = some c → p c = false
theorem NoneToS.next {p : StV → Bool} {l : List StV} {k : Nat} {c : StV} (h : NoneToS p l k) (hc : l[k]? = some c) (hp : p c = false) : NoneToS p l (k + 1) := by
  intro j d hj hd
  rcases Nat.lt_or_ge j k with h1 | h1
  · exact h j d h1 hd
  · have : j = k := by omega
    subst this
    rw [hc] at hd
    cases hd
    exact hp
theorem NoneToS.found {p : StV → Bool} {l : List StV} {k : Nat} {c : StV} (h : NoneToS p l k) (hc : l[k]? = some c) (hp : p c = true) : (k : Int) = idxS p l := by
  unfold idxS
  obtain ⟨hk, hck⟩ := List.getElem?_eq_some_iff.1 hc
  have : l.findIdx? p = some k := by
    rw [List.findIdx?_eq_some_iff_getElem]
    refine ⟨hk, by rw [hck]; exact hp, fun j hj => ?_⟩
    have := h j l[j] hj (List.getElem?_eq_getElem (by omega))
    simp [this]
  rw [this]
  rfl
theorem NoneToS.end_ {p : StV → Bool} {l : List StV} {k : Nat} (h : NoneToS p l k) (hk : l.length ≤ k) : -1 = idxS p l := by
  unfold idxS
  have : l.findIdx? p = none := by
    rw [List.findIdx?_eq_none_iff]
    intro x hx
    obtain ⟨i, hi, rfl⟩ := List.getElem_of_mem hx
    exact h i _ (by omega) (List.getElem?_eq_getElem hi)
  rw [this]
  rfl

set_option maxHeartbeats 1000000 in
set_option maxRecDepth 100000 in
theorem indexFuncS (g : Nat) (lb : Array Value) (eg : ∀ args w, (callFunc g args).run Try.prog w = .ok (.enter g args) w) (p : StV → Bool) (l : List StV) (r n cap : Nat) (w : World) (hp : PredS Try.prog g lb p w) (hrow : StRow w r l) (hr : r < w.heap.size) (hn : l.length = n) (hs : n ≤ 4611686018427387903) :
    Calls Try.prog 80 #[.slice (some ⟨r, 0, none⟩) n cap, .func (.func g) #[] lb] w fun e w' => e = .returned (.int .i64 (idxS p l)) ∧ Below w.heap.size w w' := by
  have HP := hide hp; have HR := hide hrow; have HN := hide hn
  clear hp hrow hn
  go_enter Try.func80, Try.ntmps80
  go_wp2
  go_loopw [8] (fun i wr => ∃ k : Nat, i = .int .i64 (k : Int) ∧ k ≤ n ∧ Below w.heap.size w wr ∧ Hid (NoneToS p l k)) (fun i _ => n - (intOf i).toNat)
  case atStart => exact ⟨0, rfl, Nat.zero_le _, Below.refl _ _, fun j c hj _ => by omega⟩
  case round =>
    obtain ⟨k, rfl, hk, hb, hrel⟩ := hrel
    by_cases hlt : k < n
    · obtain ⟨c, hc⟩ : ∃ c, l[k]? = some c := ⟨_, List.getElem?_eq_getElem (by have := HN.out; omega)⟩
      obtain ⟨q0, q1, q2, q3, q4, q5, q6, q7⟩ := (HR.out.below hb hr).at_ hc
      have HC := hide hc; clear hc
      have cP := HP.out wr c hb
      rcases Bool.eq_false_or_eq_true (p c) with hpc | hpc
      · rw [hpc] at cP
        have HF := hide (hrel.out.found HC.out hpc)
        have cP' := hide cP; clear cP hpc
        go_wp2_with (go_at_fn g; refine (Hid.out cP').mono ?_; rintro e w1 ⟨rfl, hb1⟩)
        go_ret
        exact ⟨ret_int HF.out, hb.trans (hb1.mono hb.size)⟩
      · rw [hpc] at cP
        have HF := hide (hrel.out.next HC.out hpc)
        have cP' := hide cP; clear cP hpc
        go_wp2_with (go_at_fn g; refine (Hid.out cP').mono ?_; rintro e w1 ⟨rfl, hb1⟩)
        go_roundw
        case rel => exact ⟨k + 1, by go_num, by omega, hb.trans (hb1.mono hb.size), HF⟩
        case measure => simp [intOf]; omega
    · have HF := hide (hrel.out.end_ (by have := HN.out; omega))
      go_wp2
      go_ret
      exact ⟨ret_int HF.out, hb⟩

set_option maxHeartbeats 400000 in
theorem containsFuncS (g : Nat) (lb : Array Value) (eg : ∀ args w, (callFunc g args).run Try.prog w = .ok (.enter g args) w) (p : StV → Bool) (l : List StV) (r n cap : Nat) (w : World) (hp : PredS Try.prog g lb p w) (hrow : StRow w r l) (hr : r < w.heap.size) (hn : l.length = n) (hs : n ≤ 4611686018427387903) :
    Calls Try.prog 56 #[.slice (some ⟨r, 0, none⟩) n cap, .func (.func g) #[] lb] w fun e w' => e = .returned (.bool (l.any p)) ∧ Below w.heap.size w w' := by
  have hc := hide (indexFuncS g lb eg p l r n cap w hp hrow hr hn hs)
  have hA := idxS_any p l
  generalize idxS p l = I at hA hc
  have HA := hide hA
  clear hrow hp hn hA
  go_enter Try.func56, Try.ntmps56
  go_wp2_with (go_at_call 80; refine (Hid.out hc).mono ?_; rintro e w1 ⟨rfl, hb1⟩)
  go_ret
  exact ⟨ret_bool HA.out, hb1⟩

@[go_sem] theorem run_makeFuncX (P : Program) (fn : Fn) (first cap : Array Value) (w : World) : (Instr.makeFunc fn first cap).run P w = .ok (.func fn first cap) w := rfl
@[go_sem] theorem buildState (w : World) : (Instr.build 42 #[]).run Try.prog w = .ok (.agg #[.int .i64 0, .string ⟨#[]⟩, .string ⟨#[]⟩, .int .u8 0, .string ⟨#[]⟩, .string ⟨#[]⟩, .int .i64 0, .string ⟨#[]⟩]) w := run_build w 42 _ _ (by kernel_rfl)
def StV.agg (s : StV) : Value := .agg #[.int .i64 s.k, .string s.el, .string s.at_, .int .u8 s.d, .string s.pe, .string s.re, .int .i64 s.pa, .string s.wo]
def StV.none_ : StV := ⟨0, ⟨#[]⟩, ⟨#[]⟩, 0, ⟨#[]⟩, ⟨#[]⟩, 0, ⟨#[]⟩⟩
/-- What join.Join answers for s and those behind it. -/
def joinS (ck : StV → Int) (s : StV) (l : List StV) : StV × Int :=
  if firstErr ck (s :: l) ≠ 0 then (StV.none_, firstErr ck (s :: l)) else if (s :: l).any (fun x => !x.same s) then (StV.none_, 92) else (s, 0)
set_option maxHeartbeats 1000000 in
set_option maxRecDepth 100000 in
/-- join.Join of one state or more. -/
theorem join_gen (ck : StV → Int) (s : StV) (l : List StV) (hck : ∀ (i : Nat) (x : StV), (s :: l)[i]? = some x → ∀ w, Calls Try.prog 79 #[.agg #[.int .i64 x.k, .string x.el, .string x.at_, .int .u8 x.d, .string x.pe, .string x.re, .int .i64 x.pa, .string x.wo]] w fun e w' => e = .returned (.int .i64 (ck x)) ∧ Below w.heap.size w w')
    (eg : ∀ args w, (callFunc 57 args).run Try.prog w = .ok (.enter 57 args) w)
    (r n cap : Nat) (w : World) (hrow : StRow w r (s :: l)) (hr : r < w.heap.size) (hn : l.length = n) (hs : n + 1 ≤ 4611686018427387903) :
    Calls Try.prog 28 #[.slice (some ⟨r, 0, none⟩) (n + 1) cap] w fun e w' => e = .returned (.tuple #[(joinS ck s l).1.agg, .int .i64 (joinS ck s l).2]) ∧ Below w.heap.size w w' := by
  obtain ⟨f, hf⟩ : ∃ f, firstErr ck (s :: l) = f := ⟨_, rfl⟩
  obtain ⟨b, hb⟩ : ∃ b, (s :: l).any (fun x => !x.same s) = b := ⟨_, rfl⟩
  have HJ := hide (show joinS ck s l = if f ≠ 0 then (StV.none_, f) else if b then (StV.none_, 92) else (s, 0) by unfold joinS; rw [hf, hb])
  have cR := hide (fun (W : World) (h1 : StRow W r (s :: l)) (h2 : r < W.heap.size) => right_gen ck (s :: l) hck r (n + 1) cap W h1 h2 (by simp [hn]) hs)
  rw [hf] at cR
  have HR := hide hrow; have HN := hide hn; have HB := hide hb
  clear hck hrow hn hf hb
  go_enter Try.func28, Try.ntmps28
  go_wp2_with fail
  refine (cR.out _ (HR.out.below (((Below.refl _ _).alloc (Nat.le_refl _) _).alloc (by simp) _) hr) (by simp; omega)).mono ?_
  rintro e w1 ⟨rfl, hb1⟩
  have hB1 : Below w.heap.size w w1 := (((Below.refl _ _).alloc (Nat.le_refl _) _).alloc (by simp) _).trans (hb1.mono (by first | (simp; done) | (simp; omega)))
  have hL : Blk w1 w.heap.size 83 #[.slice (some ⟨r, 0, none⟩) (n + 1) cap] := ((Blk.new _ _ _).alloc _).below hb1 (by first | (simp; done) | (simp; omega))
  have hZ : Blk w1 (w.heap.size + 1) 42 #[.int .i64 0, .string ⟨#[]⟩, .string ⟨#[]⟩, .int .u8 0, .string ⟨#[]⟩, .string ⟨#[]⟩, .int .i64 0, .string ⟨#[]⟩] := by
    have := Blk.new (w.alloc (.cells #[.slice (some ⟨r, 0, none⟩) (n + 1) cap] 83)) 42 #[.int .i64 0, .string ⟨#[]⟩, .string ⟨#[]⟩, .int .u8 0, .string ⟨#[]⟩, .string ⟨#[]⟩, .int .i64 0, .string ⟨#[]⟩]
    exact (show Blk _ (w.heap.size + 1) _ _ by simpa using this).below hb1 (by first | (simp; done) | (simp; omega))
  have zl := hZ.lt
  clear hb1
  by_cases hz : f = 0
  · subst hz
    have hP : PredS Try.prog 57 #[.pointer (some ⟨w.heap.size, 0, none⟩)] (fun x => !x.same s) w1 := by
      intro W x hW
      obtain ⟨q0, q1, q2, q3, q4, q5, q6, q7⟩ := (HR.out.below (hB1.trans (hW.mono hB1.size)) hr).at_ (i := 0) rfl
      simp only [Nat.zero_mul, Nat.zero_add] at q0 q1 q2 q3 q4 q5 q6 q7
      have hs1 := hB1.size
      have hs2 := hW.size
      exact differ x s w.heap.size r n cap W (by rw [(hL.below hW (by omega)).cell]; rfl) (by omega) (by omega) q0 q1 q2 q3 q4 q5 q6 q7
    have hs1 := hB1.size
    have cC := hide (containsFuncS 57 #[.pointer (some ⟨w.heap.size, 0, none⟩)] eg _ (s :: l) r (n + 1) cap w1 hP (HR.out.below hB1 hr) (by omega) (by simp [HN.out]) hs)
    rw [HB.out] at cC
    have l0 : w1.cell? ⟨w.heap.size, 0, none⟩ = some (.slice (some ⟨r, 0, none⟩) (n + 1) cap) := by rw [hL.cell]; rfl
    go_wp2_with fail
    refine (cC.out).mono ?_
    rintro e w2 ⟨rfl, hb2⟩
    have hB2 : Below w.heap.size w w2 := hB1.trans (hb2.mono hs1)
    have hL := hL.below hb2 (by omega)
    have hZ := hZ.below hb2 zl
    have l0 : w2.cell? ⟨w.heap.size, 0, none⟩ = some (.slice (some ⟨r, 0, none⟩) (n + 1) cap) := by rw [hL.cell]; rfl
    obtain ⟨z0, z1, z2, z3, z4, z5, z6, z7⟩ := hZ.eight
    have y0 := hZ.frozen 0; have y1 := hZ.frozen 1; have y2 := hZ.frozen 2; have y3 := hZ.frozen 3; have y4 := hZ.frozen 4; have y5 := hZ.frozen 5; have y6 := hZ.frozen 6; have y7 := hZ.frozen 7
    obtain ⟨q0, q1, q2, q3, q4, q5, q6, q7⟩ := (HR.out.below hB2 hr).at_ (i := 0) rfl
    simp only [Nat.zero_mul, Nat.zero_add] at q0 q1 q2 q3 q4 q5 q6 q7
    clear hL hP cC hb2 hs1 zl
    cases b
    · have HF := hide (show joinS ck s l = (s, 0) by rw [HJ.out]; rfl)
      go_wp2_with fail
      (try simp only [Exit.inBlock, Exit.then])
      refine bodyPost_ret (v := .tuple #[.agg #[.int .i64 s.k, .string s.el, .string s.at_, .int .u8 s.d, .string s.pe, .string s.re, .int .i64 s.pa, .string s.wo], .int .i64 0]) ?_ rfl ⟨by rw [HF.out]; rfl, below_eight hB2 (Nat.le_succ _)⟩
      rw [results_cell_tmp rfl]
      go_simp
    · have HF := hide (show joinS ck s l = (StV.none_, 92) by rw [HJ.out]; rfl)
      go_wp2_with fail
      (try simp only [Exit.inBlock, Exit.then])
      refine bodyPost_ret (v := .tuple #[.agg #[.int .i64 0, .string ⟨#[]⟩, .string ⟨#[]⟩, .int .u8 0, .string ⟨#[]⟩, .string ⟨#[]⟩, .int .i64 0, .string ⟨#[]⟩], .int .i64 92]) ?_ rfl ⟨by rw [HF.out]; rfl, below_eight hB2 (Nat.le_succ _)⟩
      rw [results_cell_tmp rfl]
      go_simp
  · have hz2 : (f != 0) = true := by simpa using hz
    have HF := hide (show joinS ck s l = (StV.none_, f) by rw [HJ.out, if_pos hz])
    clear hz
    obtain ⟨z0, z1, z2, z3, z4, z5, z6, z7⟩ := hZ.eight
    have y0 := hZ.frozen 0; have y1 := hZ.frozen 1; have y2 := hZ.frozen 2; have y3 := hZ.frozen 3; have y4 := hZ.frozen 4; have y5 := hZ.frozen 5; have y6 := hZ.frozen 6; have y7 := hZ.frozen 7
    go_wp2_with fail
    (try simp only [Exit.inBlock, Exit.then])
    refine bodyPost_ret (v := .tuple #[.agg #[.int .i64 0, .string ⟨#[]⟩, .string ⟨#[]⟩, .int .u8 0, .string ⟨#[]⟩, .string ⟨#[]⟩, .int .i64 0, .string ⟨#[]⟩], .int .i64 f]) ?_ rfl ⟨by rw [HF.out]; rfl, below_eight hB1 (Nat.le_succ _)⟩
    rw [results_cell_tmp rfl]
    go_simp
end Go.Proofs.Ytmgjhofecncgnaa
