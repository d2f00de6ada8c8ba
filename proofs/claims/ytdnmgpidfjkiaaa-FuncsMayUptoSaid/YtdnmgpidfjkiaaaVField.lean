/-
  A value's field and place: the program's, and the page's.
-/
import Derived.Test.YtdnmgpidfjkiaaaVClone
import Derived.Test.YtdnmgpidfjkiaaaVSame
namespace Go.Proofs.Ytdnmgpidfjkiaaa
open Go.RowKit
set_option linter.unusedVariables false
set_option linter.unusedSimpArgs false

def zeroV : Value := valV 0 0 ⟨#[]⟩ none 0 0 none 0 0
/-- Where a key stands. -/
def keyAt (name : List UInt8) : List (List UInt8) → Nat → Option Nat
  | [], _ => none
  | k :: r, i => if k == name then some i else keyAt name r (i + 1)
theorem keyAt_cons (name k : List UInt8) (r : List (List UInt8)) (i : Nat) : keyAt name (k :: r) i = if k == name then some i else keyAt name r (i + 1) := rfl
theorem keyAt_le (name : List UInt8) : ∀ (ks : List (List UInt8)) (i j : Nat), keyAt name ks i = some j → i ≤ j ∧ j < i + ks.length := by
  intro ks
  induction ks with
  | nil => intro i j h; cases h
  | cons k r ih =>
    intro i j h
    rw [keyAt_cons] at h
    split at h
    · injection h with h; subst h; simp
    · have := ih _ _ h; simp; omega
/-- A record's field, and the error. -/
def fieldR {n : Nat} (d : VN (VT n)) (name : List UInt8) : Option (VT n) × Int :=
  if d.k = 6 then (match (keyAt name d.ks 0).bind fun j => d.l[j]? with | some x => (some x, 0) | none => (none, 14)) else (none, 13)
/-- A list's place, and the error. -/
def indexR {n : Nat} (d : VN (VT n)) (i : Int) : Option (VT n) × Int :=
  if d.k = 5 then (if i < 0 then (none, 15) else match d.l[i.toNat]? with | some x => (some x, 0) | none => (none, 15)) else (none, 13)
/-- What is told: the value, or none. -/
def TellsV (U : World → Nat → Prop) (w : World) (n : Nat) (r : Option (VT n)) (v : Value) : Prop :=
  match r with
  | some x => IsV U w n v x
  | none => v = zeroV
theorem idx_from (name : List UInt8) : ∀ (ks : List (List UInt8)) (i : Nat), Lib.idxFromS (ks.map fun x => (⟨x.toArray⟩ : ByteArray)) ⟨name.toArray⟩ i = (match keyAt name ks i with | some j => (j : Int) | none => -1) := by
  intro ks
  induction ks with
  | nil => intro i; rfl
  | cons k r ih =>
    intro i
    rw [List.map_cons, keyAt_cons]
    have he : ((⟨k.toArray⟩ : ByteArray) = ⟨name.toArray⟩) ↔ k = name := by
      constructor
      · intro h; have := congrArg (fun b : ByteArray => b.data.toList) h; simpa using this
      · intro h; rw [h]
    by_cases h : k = name
    · subst h; simp [Lib.idxFromS]
    · have h2 : ¬ ((⟨k.toArray⟩ : ByteArray) = ⟨name.toArray⟩) := fun e => h (he.1 e)
      simp only [Lib.idxFromS, if_neg h2, beq_iff_eq, if_neg h]
      exact ih (i + 1)
theorem idx_keyAt (name : List UInt8) (ks : List (List UInt8)) : Lib.idxOfS (ks.map fun x => (⟨x.toArray⟩ : ByteArray)) ⟨name.toArray⟩ = (match keyAt name ks 0 with | some j => (j : Int) | none => -1) := idx_from name ks 0
theorem keyIdx_any (U : World → Nat → Prop) (a : Option Addr) (c : Nat) (ks : List (List UInt8)) (name : List UInt8) (w : World) (h : StrsAt U w a ks) (hz : ks.length * 16 ≤ 140737488351232) :
    Calls Try.prog 36 #[.slice a ks.length c, .string ⟨name.toArray⟩] w fun e w' => e = .returned (.int .i64 (match keyAt name ks 0 with | some j => (j : Int) | none => -1)) ∧ w = w' := by
  rw [← idx_keyAt]
  cases ks with
  | nil => exact (Try.slices_Index_string_empty a c ⟨name.toArray⟩ w).mono fun e w' h => ⟨h.1, h.2.symm⟩
  | cons y r =>
    obtain ⟨b, off, he, _, _, _⟩ := h 0 y rfl
    subst he
    have hc := Try.slices_Index_string b off (y :: r).length c ((y :: r).map fun x => (⟨x.toArray⟩ : ByteArray)) ⟨name.toArray⟩ w (by simp) (by omega) (by
      intro j hj
      have hj2 : j < (y :: r).length := by simpa using hj
      obtain ⟨b2, off2, he, _, _, h2⟩ := h j (y :: r)[j] (List.getElem?_eq_getElem hj2)
      injection he with he
      injection he with h3 h4
      subst h3; subst h4
      rw [h2, List.getD_eq_getElem?_getD, List.getElem?_map, List.getElem?_eq_getElem hj2]
      rfl)
    rw [List.take_of_length_le (by simp)] at hc
    exact hc.mono fun e w' h => ⟨h.1, h.2.symm⟩
/-- The boxes of a value and of a result. -/
structure TwoB (w W : World) (k i : Int) (x : ByteArray) (a : Option Addr) (m c : Nat) (b : Option Addr) (t e : Nat) : Prop where
  bel : Below w.heap.size w W
  b1 : Blk W w.heap.size 25 #[.int .i64 k, .int .i64 i, .string x, .slice a m c, .slice b t e]
  b2 : Blk W (w.heap.size + 1) 25 #[.int .i64 0, .int .i64 0, .string ⟨#[]⟩, .slice none 0 0, .slice none 0 0]
theorem TwoB.made (w : World) (k i : Int) (x : ByteArray) (a : Option Addr) (m c : Nat) (b : Option Addr) (t e : Nat) :
    TwoB w ((w.alloc (.cells #[.int .i64 k, .int .i64 i, .string x, .slice a m c, .slice b t e] 25)).alloc (.cells #[.int .i64 0, .int .i64 0, .string ⟨#[]⟩, .slice none 0 0, .slice none 0 0] 25)) k i x a m c b t e := by
  refine ⟨((Below.refl _ _).alloc (Nat.le_refl _) _).alloc (by simp) _, (Blk.new w _ _).alloc _, ?_⟩
  have := Blk.new (w.alloc (.cells #[.int .i64 k, .int .i64 i, .string x, .slice a m c, .slice b t e] 25)) 25 #[.int .i64 0, .int .i64 0, .string ⟨#[]⟩, .slice none 0 0, .slice none 0 0]
  simpa using this
/-- A result stored in its box. -/
theorem tell_set {w w2 : World} {n M : Nat} {ev : VF} {y : VT n} (hb : Below w.heap.size w w2) (hB : Blk w2 (w.heap.size + 1) 25 #[.int .i64 0, .int .i64 0, .string ⟨#[]⟩, .slice none 0 0, .slice none 0 0]) (hV : IsV (freshB M) w2 n ev.val y) (hM : w.heap.size + 1 < M) (hM2 : w.heap.size ≤ M) (v0 v1 v2 v3 v4 : Value) :
    IsV (freshB w.heap.size) (set5 w2 (w.heap.size + 1) v0 v1 v2 v3 v4) n ev.val y ∧ Below w.heap.size w (set5 w2 (w.heap.size + 1) v0 v1 v2 v3 v4) ∧ Blk (set5 w2 (w.heap.size + 1) v0 v1 v2 v3 v4) (w.heap.size + 1) 25 #[v0, v1, v2, v3, v4] := by
  refine ⟨IsV.on ⟨by rw [set5_size]; exact Nat.le_refl _, ?_⟩ n _ _ hV, set5_below hb (by omega) _ _ _ _ _, set5_blk hB _ _ _ _ _⟩
  rintro b h1 ⟨h2, cs, t, h3⟩
  have he := set5_heap w2 (w.heap.size + 1) v0 v1 v2 v3 v4 b (by omega)
  exact ⟨he, by omega, cs, t, he.trans h3⟩
set_option maxHeartbeats 2000000 in
set_option maxRecDepth 100000 in
theorem field_any (n : Nat) (U : World → Nat → Prop) (hU : ∀ w w' b, Below w.heap.size w w' → b < w.heap.size → U w b → U w' b) (v : Value) (d : VN (VT n)) (name : List UInt8) (w : World) (h : IsV U w (n + 1) v d) (hsm : SmallV (n + 1) d) :
    Calls Try.prog 15 #[v, .string ⟨name.toArray⟩] w fun e w' => ∃ v', e = .returned (.tuple #[v', .int .i64 (fieldR d name).2]) ∧ TellsV (freshB w.heap.size) w' n (fieldR d name).1 v' ∧ Below w.heap.size w w' := by
  obtain ⟨k, i, s, l, ks⟩ := d
  obtain ⟨a, c, b, e, rfl, hS, hL⟩ := h.parts
  obtain ⟨_, hz2, hz3, _, hz5⟩ := hsm
  have hz2 : l.length * 80 ≤ 140737488351232 := hz2
  have hz3 : ks.length * 16 ≤ 140737488351232 := hz3
  have hz5 : ∀ x ∈ l, SmallV n x := hz5
  simp only at hS hL ⊢
  clear h
  generalize (⟨s.toArray⟩ : ByteArray) = x
  have T := TwoB.made w k i x a l.length c b ks.length e
  have T2 := hide T
  have hq : fieldR (⟨k, i, s, l, ks⟩ : VN (VT n)) name = (if k = 6 then (match (keyAt name ks 0).bind fun j => l[j]? with | some x => (some x, 0) | none => (none, 14)) else (none, 13) : Option (VT n) × Int) := rfl
  by_cases gk : k = 6
  rotate_left
  · rw [if_neg gk] at hq
    have q : (k != 6) = true := by simpa using gk
    rw [hq]
    have o0 := T.b2.cell 0; have o1 := T.b2.cell 1; have o2 := T.b2.cell 2; have o3 := T.b2.cell 3; have o4 := T.b2.cell 4
    simp only
    clear hS hL hz5 hq gk T
    go_enter Try.func15, Try.ntmps15
    go_wp2_with fail
    simp at o0 o1 o2 o3 o4
    simp [bodyPost, results, Try.results15, go_sem, o0, o1, o2, o3, o4, TellsV, zeroV]
    exact T2.out.bel
  · subst gk
    rw [if_pos rfl] at hq
    have cK := hide (keyIdx_any U b e ks name _ (hS.on (Stays.of_below T.bel fun b h => hU _ _ b T.bel h)) hz3)
    have hle := keyAt_le name ks 0
    generalize keyAt name ks 0 = r at cK hq hle
    have HL := hide hL; have HZ5 := hide hz5
    clear hS hL hz5 T
    by_cases hr : ∃ j y, r = some j ∧ l[j]? = some y
    · obtain ⟨j, y, rfl, hy⟩ := hr
      simp only [Option.bind_some, hy] at hq
      rw [hq]
      have hjl := (List.getElem?_eq_some_iff.1 hy).1
      simp only at cK
      obtain ⟨g, o, rfl, hg, _, k2, i2, s2, a1, n1, d1, a2, n2, d2, ⟨f0, f1, f2, f3, f4⟩, hV⟩ := HL.out j y hy
      have cO := hide (fun W' (h : Below w.heap.size w W') => clone_any n U hU _ y W' (IsV.on (Stays.of_below h fun b hh => hU _ _ b h hh) n _ _ hV) (HZ5.out y (List.mem_of_getElem? hy)))
      have hjf : decide ((l.length : Int) ≤ (j : Int)) = false := by simp; omega
      have hji : (j : Int) < (l.length : Int) := by omega
      simp only
      clear hV hy hq hle
      go_enter Try.func15, Try.ntmps15
      go_wp2_with (go_at_call 36; refine (cK.out).mono ?_; rintro e w1 ⟨rfl, rfl⟩)
      refine (cO.out _ T2.out.bel).mono ?_
      rintro e' w2 ⟨v', rfl, hV2, hb2⟩
      obtain ⟨ev, rfl⟩ := hV2.shape
      have B2 := T2.out.b2.below hb2 T2.out.b2.lt
      have hbel := T2.out.bel.trans (hb2.mono T2.out.bel.size)
      have hDn := hide (tell_set hbel B2 hV2 (by simp) (by simp; omega) (.int .i64 ev.k) (.int .i64 ev.i) (.string ev.s) (.slice ev.a ev.n ev.c) (.slice ev.a2 ev.n2 ev.c2))
      have o0 := B2.cell 0; have o1 := B2.cell 1; have o2 := B2.cell 2; have o3 := B2.cell 3; have o4 := B2.cell 4
      have y0 := B2.frozen 0; have y1 := B2.frozen 1; have y2 := B2.frozen 2; have y3 := B2.frozen 3; have y4 := B2.frozen 4
      simp at o0 o1 o2 o3 o4
      clear hV2 hb2 B2 hbel
      go_wp2_with fail
      obtain ⟨hV5, hb5, hK5⟩ := hDn.out
      unfold set5 at hV5 hb5 hK5
      clear o0 o1 o2 o3 o4 y0 y1 y2 y3 y4
      generalize ((((w2.setCell ⟨w.heap.size + 1, 0, none⟩ (.int .i64 ev.k)).setCell ⟨w.heap.size + 1, 1, none⟩ (.int .i64 ev.i)).setCell ⟨w.heap.size + 1, 2, none⟩ (.string ev.s)).setCell ⟨w.heap.size + 1, 3, none⟩ (.slice ev.a ev.n ev.c)).setCell ⟨w.heap.size + 1, 4, none⟩ (.slice ev.a2 ev.n2 ev.c2) = w5 at hV5 hb5 hK5 ⊢
      have r0 := hK5.cell 0; have r1 := hK5.cell 1; have r2 := hK5.cell 2; have r3 := hK5.cell 3; have r4 := hK5.cell 4
      simp at r0 r1 r2 r3 r4
      have HV5 := hide hV5; have HB5 := hide hb5
      clear hV5 hb5
      simp [bodyPost, results, Try.results15, go_sem, r0, r1, r2, r3, r4, TellsV]
      exact ⟨HV5.out, HB5.out⟩
    · have hb : (r.bind fun j => l[j]?) = none := by
        cases r with
        | none => rfl
        | some j =>
          simp only [Option.bind_some]
          cases h2 : l[j]? with
          | none => rfl
          | some y => exact absurd ⟨j, y, rfl, h2⟩ hr
      rw [hb] at hq
      simp only at hq
      rw [hq]
      have o0 := T2.out.b2.cell 0; have o1 := T2.out.b2.cell 1; have o2 := T2.out.b2.cell 2; have o3 := T2.out.b2.cell 3; have o4 := T2.out.b2.cell 4
      simp at o0 o1 o2 o3 o4
      simp only
      cases r with
      | none =>
        simp only at cK
        clear hb hq hle hr
        go_enter Try.func15, Try.ntmps15
        go_wp2_with (go_at_call 36; refine (cK.out).mono ?_; rintro e w1 ⟨rfl, rfl⟩)
        simp [bodyPost, results, Try.results15, go_sem, o0, o1, o2, o3, o4, TellsV, zeroV]
        exact T2.out.bel
      | some j =>
        have hjl : l.length ≤ j := by
          rcases Nat.lt_or_ge j l.length with h | h
          · exact absurd ⟨j, _, rfl, List.getElem?_eq_getElem h⟩ hr
          · exact h
        have hjt : (l.length : Int) ≤ (j : Int) := by omega
        simp only at cK
        clear hb hq hle hr
        go_enter Try.func15, Try.ntmps15
        go_wp2_with (go_at_call 36; refine (cK.out).mono ?_; rintro e w1 ⟨rfl, rfl⟩)
        simp [bodyPost, results, Try.results15, go_sem, o0, o1, o2, o3, o4, TellsV, zeroV]
        exact T2.out.bel
set_option maxHeartbeats 2000000 in
set_option maxRecDepth 100000 in
theorem index_any (n : Nat) (U : World → Nat → Prop) (hU : ∀ w w' b, Below w.heap.size w w' → b < w.heap.size → U w b → U w' b) (v : Value) (d : VN (VT n)) (q : Int) (hq0 : -9223372036854775808 ≤ q) (hq1 : q ≤ 9223372036854775807) (w : World) (h : IsV U w (n + 1) v d) (hsm : SmallV (n + 1) d) :
    Calls Try.prog 16 #[v, .int .i64 q] w fun e w' => ∃ v', e = .returned (.tuple #[v', .int .i64 (indexR d q).2]) ∧ TellsV (freshB w.heap.size) w' n (indexR d q).1 v' ∧ Below w.heap.size w w' := by
  obtain ⟨k, i, s, l, ks⟩ := d
  obtain ⟨a, c, b, e, rfl, hS, hL⟩ := h.parts
  obtain ⟨_, hz2, hz3, _, hz5⟩ := hsm
  have hz2 : l.length * 80 ≤ 140737488351232 := hz2
  have hz3 : ks.length * 16 ≤ 140737488351232 := hz3
  have hz5 : ∀ x ∈ l, SmallV n x := hz5
  simp only at hS hL ⊢
  clear h
  generalize (⟨s.toArray⟩ : ByteArray) = x
  have T := TwoB.made w k i x a l.length c b ks.length e
  have T2 := hide T
  have hq : indexR (⟨k, i, s, l, ks⟩ : VN (VT n)) q = (if k = 5 then (if q < 0 then (none, 15) else match l[q.toNat]? with | some x => (some x, 0) | none => (none, 15)) else (none, 13) : Option (VT n) × Int) := rfl
  by_cases gk : k = 5
  rotate_left
  · rw [if_neg gk] at hq
    have g : (k != 5) = true := by simpa using gk
    rw [hq]
    simp only
    have o0 := T.b2.cell 0; have o1 := T.b2.cell 1; have o2 := T.b2.cell 2; have o3 := T.b2.cell 3; have o4 := T.b2.cell 4
    simp at o0 o1 o2 o3 o4
    clear hS hL hz5 hq gk T
    go_enter Try.func16, Try.ntmps16
    go_wp2_with fail
    simp [bodyPost, results, Try.results16, go_sem, o0, o1, o2, o3, o4, TellsV, zeroV]
    exact T2.out.bel
  · subst gk
    rw [if_pos rfl] at hq
    by_cases g0 : q < 0
    · rw [if_pos g0] at hq
      rw [hq]
      simp only
      have o0 := T.b2.cell 0; have o1 := T.b2.cell 1; have o2 := T.b2.cell 2; have o3 := T.b2.cell 3; have o4 := T.b2.cell 4
      simp at o0 o1 o2 o3 o4
      clear hS hL hz5 hq T
      go_enter Try.func16, Try.ntmps16
      go_wp2_with fail
      simp [bodyPost, results, Try.results16, go_sem, o0, o1, o2, o3, o4, TellsV, zeroV]
      exact T2.out.bel
    · rw [if_neg g0] at hq
      obtain ⟨j, rfl⟩ : ∃ j : Nat, q = (j : Int) := ⟨q.toNat, by omega⟩
      rw [Int.toNat_natCast] at hq
      by_cases gj : j < l.length
      rotate_left
      · have hjt : (l.length : Int) ≤ (j : Int) := by omega
        rw [List.getElem?_eq_none (by omega)] at hq
        simp only at hq
        rw [hq]
        simp only
        have o0 := T.b2.cell 0; have o1 := T.b2.cell 1; have o2 := T.b2.cell 2; have o3 := T.b2.cell 3; have o4 := T.b2.cell 4
        simp at o0 o1 o2 o3 o4
        clear hS hL hz5 hq T
        go_enter Try.func16, Try.ntmps16
        go_wp2_with fail
        simp [bodyPost, results, Try.results16, go_sem, o0, o1, o2, o3, o4, TellsV, zeroV]
        exact T2.out.bel
      · obtain ⟨y, hy⟩ : ∃ y, l[j]? = some y := ⟨_, List.getElem?_eq_getElem gj⟩
        rw [hy] at hq
        simp only at hq
        rw [hq]
        simp only
        obtain ⟨g, o, rfl, hg, _, k2, i2, s2, a1, n1, d1, a2, n2, d2, ⟨f0, f1, f2, f3, f4⟩, hV⟩ := hL j y hy
        have hjf : decide ((l.length : Int) ≤ (j : Int)) = false := by simp; omega
        have hji : (j : Int) < (l.length : Int) := by omega
        have cO := hide (fun W' (h : Below w.heap.size w W') => clone_any n U hU _ y W' (IsV.on (Stays.of_below h fun b hh => hU _ _ b h hh) n _ _ hV) (hz5 y (List.mem_of_getElem? hy)))
        clear hV hy hq hS hL hz5 T
        go_enter Try.func16, Try.ntmps16
        go_wp2_with fail
        refine (cO.out _ T2.out.bel).mono ?_
        rintro e' w2 ⟨v', rfl, hV2, hb2⟩
        obtain ⟨ev, rfl⟩ := hV2.shape
        have B2 := T2.out.b2.below hb2 T2.out.b2.lt
        have hbel := T2.out.bel.trans (hb2.mono T2.out.bel.size)
        have hDn := hide (tell_set hbel B2 hV2 (by simp) (by simp; omega) (.int .i64 ev.k) (.int .i64 ev.i) (.string ev.s) (.slice ev.a ev.n ev.c) (.slice ev.a2 ev.n2 ev.c2))
        have o0 := B2.cell 0; have o1 := B2.cell 1; have o2 := B2.cell 2; have o3 := B2.cell 3; have o4 := B2.cell 4
        have y0 := B2.frozen 0; have y1 := B2.frozen 1; have y2 := B2.frozen 2; have y3 := B2.frozen 3; have y4 := B2.frozen 4
        simp at o0 o1 o2 o3 o4
        clear hV2 hb2 B2 hbel
        go_wp2_with fail
        obtain ⟨hV5, hb5, hK5⟩ := hDn.out
        unfold set5 at hV5 hb5 hK5
        clear o0 o1 o2 o3 o4 y0 y1 y2 y3 y4
        generalize ((((w2.setCell ⟨w.heap.size + 1, 0, none⟩ (.int .i64 ev.k)).setCell ⟨w.heap.size + 1, 1, none⟩ (.int .i64 ev.i)).setCell ⟨w.heap.size + 1, 2, none⟩ (.string ev.s)).setCell ⟨w.heap.size + 1, 3, none⟩ (.slice ev.a ev.n ev.c)).setCell ⟨w.heap.size + 1, 4, none⟩ (.slice ev.a2 ev.n2 ev.c2) = w5 at hV5 hb5 hK5 ⊢
        have r0 := hK5.cell 0; have r1 := hK5.cell 1; have r2 := hK5.cell 2; have r3 := hK5.cell 3; have r4 := hK5.cell 4
        simp at r0 r1 r2 r3 r4
        have HV5 := hide hV5; have HB5 := hide hb5
        clear hV5 hb5
        simp [bodyPost, results, Try.results16, go_sem, r0, r1, r2, r3, r4, TellsV]
        exact ⟨HV5.out, HB5.out⟩
/-- A part of the argument, stored in the result's box. -/
theorem tell_ref {U : World → Nat → Prop} {w W : World} (hU : ∀ w w' b, Below w.heap.size w w' → b < w.heap.size → U w b → U w' b) {n : Nat} {v : Value} {y : VT n} (hb : Below w.heap.size w W) (hB : Blk W (w.heap.size + 1) 25 #[.int .i64 0, .int .i64 0, .string ⟨#[]⟩, .slice none 0 0, .slice none 0 0]) (hV : IsV U w n v y) (v0 v1 v2 v3 v4 : Value) :
    IsV U (set5 W (w.heap.size + 1) v0 v1 v2 v3 v4) n v y ∧ Below w.heap.size w (set5 W (w.heap.size + 1) v0 v1 v2 v3 v4) ∧ Blk (set5 W (w.heap.size + 1) v0 v1 v2 v3 v4) (w.heap.size + 1) 25 #[v0, v1, v2, v3, v4] := by
  have h2 := set5_below hb (b := w.heap.size + 1) (by omega) v0 v1 v2 v3 v4
  exact ⟨IsV.on (Stays.of_below h2 fun b h => hU _ _ b h2 h) n _ _ hV, h2, set5_blk hB _ _ _ _ _⟩
theorem tell_new {U : World → Nat → Prop} {w : World} (hU : ∀ w w' b, Below w.heap.size w w' → b < w.heap.size → U w b → U w' b) {n : Nat} {v : Value} {y : VT n} (hV : IsV U w n v y) (o : Obj) (v0 v1 v2 v3 v4 : Value) :
    IsV U ((w.alloc o).alloc (.cells #[v0, v1, v2, v3, v4] 25)) n v y ∧ Below w.heap.size w ((w.alloc o).alloc (.cells #[v0, v1, v2, v3, v4] 25)) ∧ Blk ((w.alloc o).alloc (.cells #[v0, v1, v2, v3, v4] 25)) (w.heap.size + 1) 25 #[v0, v1, v2, v3, v4] := by
  have h2 : Below w.heap.size w ((w.alloc o).alloc (.cells #[v0, v1, v2, v3, v4] 25)) := ((Below.refl _ _).alloc (Nat.le_refl _) _).alloc (by simp) _
  refine ⟨IsV.on (Stays.of_below h2 fun b h => hU _ _ b h2 h) n _ _ hV, h2, ?_⟩
  have := Blk.new (w.alloc o) 25 #[v0, v1, v2, v3, v4]
  simpa using this
set_option maxHeartbeats 2000000 in
set_option maxRecDepth 100000 in
theorem refIndex_any (n : Nat) (U : World → Nat → Prop) (hU : ∀ w w' b, Below w.heap.size w w' → b < w.heap.size → U w b → U w' b) (v : Value) (d : VN (VT n)) (q : Int) (hq0 : -9223372036854775808 ≤ q) (hq1 : q ≤ 9223372036854775807) (w : World) (h : IsV U w (n + 1) v d) (hsm : SmallV (n + 1) d) :
    Calls Try.prog 19 #[v, .int .i64 q] w fun e w' => ∃ v', e = .returned (.tuple #[v', .int .i64 (indexR d q).2]) ∧ TellsV U w' n (indexR d q).1 v' ∧ Below w.heap.size w w' := by
  obtain ⟨k, i, s, l, ks⟩ := d
  obtain ⟨a, c, b, e, rfl, hS, hL⟩ := h.parts
  obtain ⟨_, hz2, hz3, _, hz5⟩ := hsm
  have hz2 : l.length * 80 ≤ 140737488351232 := hz2
  have hz3 : ks.length * 16 ≤ 140737488351232 := hz3
  have hz5 : ∀ x ∈ l, SmallV n x := hz5
  simp only at hS hL ⊢
  clear h
  generalize (⟨s.toArray⟩ : ByteArray) = x
  have T := TwoB.made w k i x a l.length c b ks.length e
  have T2 := hide T
  have hq : indexR (⟨k, i, s, l, ks⟩ : VN (VT n)) q = (if k = 5 then (if q < 0 then (none, 15) else match l[q.toNat]? with | some x => (some x, 0) | none => (none, 15)) else (none, 13) : Option (VT n) × Int) := rfl
  by_cases gk : k = 5
  rotate_left
  · rw [if_neg gk] at hq
    have g : (k != 5) = true := by simpa using gk
    rw [hq]
    simp only
    have o0 := T.b2.cell 0; have o1 := T.b2.cell 1; have o2 := T.b2.cell 2; have o3 := T.b2.cell 3; have o4 := T.b2.cell 4
    simp at o0 o1 o2 o3 o4
    clear hS hL hz5 hq gk T
    go_enter Try.func19, Try.ntmps19
    go_wp2_with fail
    simp [bodyPost, results, Try.results19, go_sem, o0, o1, o2, o3, o4, TellsV, zeroV]
    exact T2.out.bel
  · subst gk
    rw [if_pos rfl] at hq
    by_cases g0 : q < 0
    · rw [if_pos g0] at hq
      rw [hq]
      simp only
      have o0 := T.b2.cell 0; have o1 := T.b2.cell 1; have o2 := T.b2.cell 2; have o3 := T.b2.cell 3; have o4 := T.b2.cell 4
      simp at o0 o1 o2 o3 o4
      clear hS hL hz5 hq T
      go_enter Try.func19, Try.ntmps19
      go_wp2_with fail
      simp [bodyPost, results, Try.results19, go_sem, o0, o1, o2, o3, o4, TellsV, zeroV]
      exact T2.out.bel
    · rw [if_neg g0] at hq
      obtain ⟨j, rfl⟩ : ∃ j : Nat, q = (j : Int) := ⟨q.toNat, by omega⟩
      rw [Int.toNat_natCast] at hq
      by_cases gj : j < l.length
      rotate_left
      · have hjt : (l.length : Int) ≤ (j : Int) := by omega
        rw [List.getElem?_eq_none (by omega)] at hq
        simp only at hq
        rw [hq]
        simp only
        have o0 := T.b2.cell 0; have o1 := T.b2.cell 1; have o2 := T.b2.cell 2; have o3 := T.b2.cell 3; have o4 := T.b2.cell 4
        simp at o0 o1 o2 o3 o4
        clear hS hL hz5 hq T
        go_enter Try.func19, Try.ntmps19
        go_wp2_with fail
        simp [bodyPost, results, Try.results19, go_sem, o0, o1, o2, o3, o4, TellsV, zeroV]
        exact T2.out.bel
      · obtain ⟨y, hy⟩ : ∃ y, l[j]? = some y := ⟨_, List.getElem?_eq_getElem gj⟩
        rw [hy] at hq
        simp only at hq
        rw [hq]
        simp only
        obtain ⟨g, o, rfl, hg, _, k2, i2, s2, a1, n1, d1, a2, n2, d2, ⟨f0, f1, f2, f3, f4⟩, hV⟩ := hL j y hy
        have hjf : decide ((l.length : Int) ≤ (j : Int)) = false := by simp; omega
        have hji : (j : Int) < (l.length : Int) := by omega
        have hDn := hide (tell_new hU hV (.cells #[.int .i64 5, .int .i64 i, .string x, .slice (some ⟨g, o, none⟩) l.length c, .slice b ks.length e] 25) (.int .i64 k2) (.int .i64 i2) (.string s2) (.slice a1 n1 d1) (.slice a2 n2 d2))
        clear hV hy hq hS hL hz5 T
        go_enter Try.func19, Try.ntmps19
        go_wp2_with fail
        obtain ⟨hV5, hb5, hK5⟩ := hDn.out
        generalize (w.alloc (.cells #[.int .i64 5, .int .i64 i, .string x, .slice (some ⟨g, o, none⟩) l.length c, .slice b ks.length e] 25)).alloc (.cells #[.int .i64 k2, .int .i64 i2, .string s2, .slice a1 n1 d1, .slice a2 n2 d2] 25) = w5 at hV5 hb5 hK5 ⊢
        have r0 := hK5.cell 0; have r1 := hK5.cell 1; have r2 := hK5.cell 2; have r3 := hK5.cell 3; have r4 := hK5.cell 4
        simp at r0 r1 r2 r3 r4
        have HV5 := hide hV5; have HB5 := hide hb5
        clear hV5 hb5
        simp [bodyPost, results, Try.results19, go_sem, r0, r1, r2, r3, r4, TellsV]
        exact ⟨HV5.out, HB5.out⟩
theorem keyAt_miss {name : List UInt8} {ks : List (List UInt8)} {j : Nat} {x : List UInt8} (hx : ks[j]? = some x) (hne : x ≠ name) : keyAt name (ks.drop j) j = keyAt name (ks.drop (j + 1)) (j + 1) := by
  obtain ⟨hj, e⟩ := List.getElem?_eq_some_iff.1 hx
  rw [List.drop_eq_getElem_cons hj, e, keyAt_cons, if_neg (by simpa using hne)]
theorem keyAt_hit {name : List UInt8} {ks : List (List UInt8)} {j : Nat} (hx : ks[j]? = some name) : keyAt name (ks.drop j) j = some j := by
  obtain ⟨hj, e⟩ := List.getElem?_eq_some_iff.1 hx
  rw [List.drop_eq_getElem_cons hj, e, keyAt_cons, if_pos (by simp)]
set_option maxHeartbeats 2000000 in
set_option maxRecDepth 100000 in
theorem refField_any (n : Nat) (U : World → Nat → Prop) (hU : ∀ w w' b, Below w.heap.size w w' → b < w.heap.size → U w b → U w' b) (v : Value) (d : VN (VT n)) (name : List UInt8) (w : World) (h : IsV U w (n + 1) v d) (hsm : SmallV (n + 1) d) :
    Calls Try.prog 18 #[v, .string ⟨name.toArray⟩] w fun e w' => ∃ v', e = .returned (.tuple #[v', .int .i64 (fieldR d name).2]) ∧ TellsV U w' n (fieldR d name).1 v' ∧ Below w.heap.size w w' := by
  obtain ⟨k, i, s, l, ks⟩ := d
  obtain ⟨a, c, b, e, rfl, hS, hL⟩ := h.parts
  obtain ⟨_, hz2, hz3, _, hz5⟩ := hsm
  have hz2 : l.length * 80 ≤ 140737488351232 := hz2
  have hz3 : ks.length * 16 ≤ 140737488351232 := hz3
  simp only at hS hL ⊢
  clear h hz5
  generalize (⟨s.toArray⟩ : ByteArray) = x
  have T := TwoB.made w k i x a l.length c b ks.length e
  have hq : fieldR (⟨k, i, s, l, ks⟩ : VN (VT n)) name = (if k = 6 then (match (keyAt name ks 0).bind fun j => l[j]? with | some x => (some x, 0) | none => (none, 14)) else (none, 13) : Option (VT n) × Int) := rfl
  by_cases gk : k = 6
  rotate_left
  · rw [if_neg gk] at hq
    have q : (k != 6) = true := by simpa using gk
    rw [hq]
    have o0 := T.b2.cell 0; have o1 := T.b2.cell 1; have o2 := T.b2.cell 2; have o3 := T.b2.cell 3; have o4 := T.b2.cell 4
    simp at o0 o1 o2 o3 o4
    have T2 := hide T
    simp only
    clear hS hL hq gk T
    go_enter Try.func18, Try.ntmps18
    go_wp2_with fail
    simp [bodyPost, results, Try.results18, go_sem, o0, o1, o2, o3, o4, TellsV, zeroV]
    exact T2.out.bel
  · subst gk
    rw [if_pos rfl] at hq
    obtain ⟨R, hR⟩ : ∃ R, fieldR (⟨6, i, s, l, ks⟩ : VN (VT n)) name = R := ⟨_, rfl⟩
    rw [hR] at hq ⊢
    have HQ := hide hq
    clear hq hR
    have HS := hide hS; have HL := hide hL
    clear hS hL
    go_enter Try.func18, Try.ntmps18
    go_wp2_with fail
    generalize (w.alloc (.cells #[.int .i64 6, .int .i64 i, .string x, .slice a l.length c, .slice b ks.length e] 25)).alloc (.cells #[.int .i64 0, .int .i64 0, .string ⟨#[]⟩, .slice none 0 0, .slice none 0 0] 25) = W at T ⊢
    have p3 := T.b1.cell 3; have p4 := T.b1.cell 4
    simp at p3 p4
    have T2 := hide T
    have l2 := T.b2.lt
    clear T
    go_loopw [6] (fun iv wr => ∃ j : Nat, iv = .int .i64 (j : Int) ∧ j ≤ ks.length ∧ wr = W ∧ Hid (keyAt name ks 0 = keyAt name (ks.drop j) j)) (fun iv _ => ks.length - (intOf iv).toNat)
    case atStart => exact ⟨0, rfl, Nat.zero_le _, rfl, rfl⟩
    case round =>
      obtain ⟨j, rfl, hj, rfl, hrel⟩ := hrel
      have hbw := T2.out.bel
      have o0 := T2.out.b2.cell 0; have o1 := T2.out.b2.cell 1; have o2 := T2.out.b2.cell 2; have o3 := T2.out.b2.cell 3; have o4 := T2.out.b2.cell 4
      simp at o0 o1 o2 o3 o4
      have y0 := T2.out.b2.frozen 0; have y1 := T2.out.b2.frozen 1; have y2 := T2.out.b2.frozen 2; have y3 := T2.out.b2.frozen 3; have y4 := T2.out.b2.frozen 4
      by_cases hin : j < ks.length ∧ j < l.length
      rotate_left
      · have hRe : R = (none, 14) := by
          rw [HQ.out, hrel.out]
          cases hk : keyAt name (ks.drop j) j with
          | none => rfl
          | some r =>
            have h1 := keyAt_le name _ _ _ hk
            rw [List.length_drop] at h1
            simp only [Option.bind_some]
            rw [List.getElem?_eq_none (by omega)]
        subst hRe
        have HB := hide hbw
        clear hbw hrel
        by_cases hjk : j < ks.length
        · have h1 : (j : Int) < (ks.length : Int) := by omega
          have h2 : decide ((j : Int) < (l.length : Int)) = false := by simp; omega
          go_wp2_with fail
          simp [bodyPost, results, Try.results18, go_sem, o0, o1, o2, o3, o4, TellsV, zeroV]
          exact set5_below HB.out (b := w.heap.size + 1) (by omega) _ _ _ _ _
        · have h1 : decide ((j : Int) < (ks.length : Int)) = false := by simp; omega
          go_wp2_with fail
          simp [bodyPost, results, Try.results18, go_sem, o0, o1, o2, o3, o4, TellsV, zeroV]
          exact set5_below HB.out (b := w.heap.size + 1) (by omega) _ _ _ _ _
      · obtain ⟨hjk, hjl⟩ := hin
        have h1 : (j : Int) < (ks.length : Int) := by omega
        have h2 : (j : Int) < (l.length : Int) := by omega
        obtain ⟨z, hz⟩ : ∃ z, ks[j]? = some z := ⟨_, List.getElem?_eq_getElem hjk⟩
        obtain ⟨g, off, rfl, hg, _, f⟩ := HS.out j z hz
        have hgW : g < wr.heap.size := Nat.lt_of_lt_of_le hg hbw.size
        have f := (hbw.cell (p := ⟨g, off + j, none⟩) hg).trans f
        have hzz := toL_eq z name
        obtain ⟨Z, hZ⟩ : ∃ Z : ByteArray, (⟨z.toArray⟩ : ByteArray) = Z := ⟨_, rfl⟩
        obtain ⟨NM, hN⟩ : ∃ Z : ByteArray, (⟨name.toArray⟩ : ByteArray) = Z := ⟨_, rfl⟩
        rw [hZ] at f hzz
        rw [hN] at hzz
        by_cases he : z = name
        · subst he
          obtain ⟨y, hy⟩ : ∃ y, l[j]? = some y := ⟨_, List.getElem?_eq_getElem hjl⟩
          obtain ⟨g3, o3', rfl, hg3, _, k2, i2, s2, a1, n1, d1, a2, n2, d2, ⟨f0, f1, f2, f3, f4⟩, hV⟩ := HL.out j y hy
          have e0 := (hbw.cell (p := ⟨g3, o3' + j * 5, none⟩) hg3).trans f0
          have e1 := (hbw.cell (p := ⟨g3, o3' + j * 5 + 1, none⟩) hg3).trans f1
          have e2 := (hbw.cell (p := ⟨g3, o3' + j * 5 + 2, none⟩) hg3).trans f2
          have e3 := (hbw.cell (p := ⟨g3, o3' + j * 5 + 3, none⟩) hg3).trans f3
          have e4 := (hbw.cell (p := ⟨g3, o3' + j * 5 + 4, none⟩) hg3).trans f4
          have hg3W : g3 < wr.heap.size := Nat.lt_of_lt_of_le hg3 hbw.size
          have hRe : R = (some y, 0) := by
            rw [HQ.out, hrel.out, keyAt_hit hz]
            simp only [Option.bind_some, hy]
          subst hRe
          have hDn := hide (tell_ref hU hbw T2.out.b2 hV (.int .i64 k2) (.int .i64 i2) (.string s2) (.slice a1 n1 d1) (.slice a2 n2 d2))
          simp only [beq_self_eq_true] at hzz
          clear hV hy hz hbw hrel f0 f1 f2 f3 f4
          go_wp2_with fail
          obtain ⟨hV5, hb5, hK5⟩ := hDn.out
          unfold set5 at hV5 hb5 hK5
          clear o0 o1 o2 o3 o4 y0 y1 y2 y3 y4 e0 e1 e2 e3 e4
          generalize ((((wr.setCell ⟨w.heap.size + 1, 0, none⟩ (.int .i64 k2)).setCell ⟨w.heap.size + 1, 1, none⟩ (.int .i64 i2)).setCell ⟨w.heap.size + 1, 2, none⟩ (.string s2)).setCell ⟨w.heap.size + 1, 3, none⟩ (.slice a1 n1 d1)).setCell ⟨w.heap.size + 1, 4, none⟩ (.slice a2 n2 d2) = w5 at hV5 hb5 hK5 ⊢
          have r0 := hK5.cell 0; have r1 := hK5.cell 1; have r2 := hK5.cell 2; have r3 := hK5.cell 3; have r4 := hK5.cell 4
          simp at r0 r1 r2 r3 r4
          have HV5 := hide hV5; have HB5 := hide hb5
          clear hV5 hb5
          simp [bodyPost, results, Try.results18, go_sem, r0, r1, r2, r3, r4, TellsV]
          exact ⟨HV5.out, HB5.out⟩
        · have hb : (z == name) = false := by simpa using he
          rw [hb] at hzz
          have hnx : Hid (keyAt name ks 0 = keyAt name (ks.drop (j + 1)) (j + 1)) := by
            show _ = _
            rw [hrel.out, keyAt_miss hz he]
          clear hbw hrel hz hb he
          go_wp2_with fail
          go_roundw
          case rel => exact ⟨j + 1, by go_num, by omega, by first | rfl | trivial, hnx⟩
          case measure => simp [intOf]; omega
end Go.Proofs.Ytdnmgpidfjkiaaa
