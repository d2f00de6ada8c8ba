/-
  join.Join of two and three states; muslinlaw24.alive.
-/
import Derived.Test.YtmgjhofecncgnaaMarks
import Derived.Test.YtmgjhofecncgnaaJoinA
namespace Go.Proofs.Ytmgjhofecncgnaa
open Go.RowKit
set_option linter.unusedVariables false
set_option linter.unusedSimpArgs false

def StV.chk (s : StV) : Int := chkM s.k s.el.data.toList s.at_.data.toList s.d s.pe.data.toList s.re.data.toList s.pa s.wo.data.toList
def StV.ok (s : StV) : Prop := 0 ≤ s.d ∧ s.d ≤ 255
theorem bytes_eq {a b : ByteArray} (h : a.toList = b.toList) : a = b := by
  rw [ByteArray.toList_eq, ByteArray.toList_eq] at h
  cases a; cases b
  simp at h
  rw [h]
theorem same_iff (s t : StV) : s.same t = true ↔ s = t := by
  constructor
  · intro h
    unfold StV.same sameV at h
    simp only [Bool.and_eq_true, beq_iff_eq] at h
    obtain ⟨h0, h1, h2, h3, h4, h5, h6, h7⟩ := h
    cases s; cases t
    simp only at h0 h1 h2 h3 h4 h5 h6 h7
    rw [h0, bytes_eq h1, bytes_eq h2, h3, bytes_eq h4, bytes_eq h5, h6, bytes_eq h7]
  · rintro rfl
    unfold StV.same sameV
    simp
theorem row2 {w : World} {r : Nat} {ty : TypeId} (s t : StV) (h : Blk w r ty #[.int .i64 s.k, .string s.el, .string s.at_, .int .u8 s.d, .string s.pe, .string s.re, .int .i64 s.pa, .string s.wo, .int .i64 t.k, .string t.el, .string t.at_, .int .u8 t.d, .string t.pe, .string t.re, .int .i64 t.pa, .string t.wo]) : StRow w r [s, t] := by
  intro i x hx j v hv
  rw [h.cell]
  have hj : j < 8 := by
    have := (Array.getElem?_eq_some_iff.1 hv).1
    simpa [StV.cells] using this
  have hi : i < 2 := by simpa using (List.getElem?_eq_some_iff.1 hx).1
  have hi2 : i = 0 ∨ i = 1 := by omega
  have hj2 : j = 0 ∨ j = 1 ∨ j = 2 ∨ j = 3 ∨ j = 4 ∨ j = 5 ∨ j = 6 ∨ j = 7 := by omega
  rcases hi2 with rfl | rfl
  all_goals
    cases hx
    rcases hj2 with rfl | rfl | rfl | rfl | rfl | rfl | rfl | rfl
    all_goals exact hv
theorem row3 {w : World} {r : Nat} {ty : TypeId} (s t u : StV) (h : Blk w r ty #[.int .i64 s.k, .string s.el, .string s.at_, .int .u8 s.d, .string s.pe, .string s.re, .int .i64 s.pa, .string s.wo, .int .i64 t.k, .string t.el, .string t.at_, .int .u8 t.d, .string t.pe, .string t.re, .int .i64 t.pa, .string t.wo, .int .i64 u.k, .string u.el, .string u.at_, .int .u8 u.d, .string u.pe, .string u.re, .int .i64 u.pa, .string u.wo]) : StRow w r [s, t, u] := by
  intro i x hx j v hv
  rw [h.cell]
  have hj : j < 8 := by
    have := (Array.getElem?_eq_some_iff.1 hv).1
    simpa [StV.cells] using this
  have hi : i < 3 := by simpa using (List.getElem?_eq_some_iff.1 hx).1
  have hi2 : i = 0 ∨ i = 1 ∨ i = 2 := by omega
  have hj2 : j = 0 ∨ j = 1 ∨ j = 2 ∨ j = 3 ∨ j = 4 ∨ j = 5 ∨ j = 6 ∨ j = 7 := by omega
  rcases hi2 with rfl | rfl | rfl
  all_goals
    cases hx
    rcases hj2 with rfl | rfl | rfl | rfl | rfl | rfl | rfl | rfl
    all_goals exact hv

theorem join_any (s : StV) (l : List StV) (hok : ∀ x ∈ s :: l, x.ok) (r n cap : Nat) (w : World) (hrow : StRow w r (s :: l)) (hr : r < w.heap.size) (hn : l.length = n) (hs : n + 1 ≤ 4611686018427387903) :
    Calls Try.prog 28 #[.slice (some ⟨r, 0, none⟩) (n + 1) cap] w fun e w' => e = .returned (.tuple #[(joinS StV.chk s l).1.agg, .int .i64 (joinS StV.chk s l).2]) ∧ Below w.heap.size w w' :=
  join_gen StV.chk s l (fun i x hx w => check_any x.k x.el x.at_ x.d x.pe x.re x.pa x.wo w (hok x (List.mem_of_getElem? hx)).1 (hok x (List.mem_of_getElem? hx)).2) (fun _ _ => rfl) r n cap w hrow hr hn hs
theorem join2_any (s t : StV) (h1 : s.ok) (h2 : t.ok) (w : World) (r : Nat) (hr : r = w.heap.size) : Calls Try.prog 28 #[.slice (some ⟨r, 0, none⟩) 2 2] (w.alloc (.cells #[.int .i64 s.k, .string s.el, .string s.at_, .int .u8 s.d, .string s.pe, .string s.re, .int .i64 s.pa, .string s.wo, .int .i64 t.k, .string t.el, .string t.at_, .int .u8 t.d, .string t.pe, .string t.re, .int .i64 t.pa, .string t.wo] 42))
    fun e w' => e = .returned (.tuple #[(joinS StV.chk s [t]).1.agg, .int .i64 (joinS StV.chk s [t]).2]) ∧ Below w.heap.size w w' := by
  subst hr
  exact (join_any s [t] (by simp [h1, h2]) w.heap.size 1 2 _ (row2 s t (Blk.new _ _ _)) (by simp) rfl (by omega)).mono fun e w' ⟨h, hb⟩ => ⟨h, ((Below.refl _ _).alloc (Nat.le_refl _) _).trans (hb.mono (by simp))⟩
theorem join3_any (s t u : StV) (h1 : s.ok) (h2 : t.ok) (h3 : u.ok) (w : World) (r : Nat) (hr : r = w.heap.size) : Calls Try.prog 28 #[.slice (some ⟨r, 0, none⟩) 3 3] (w.alloc (.cells #[.int .i64 s.k, .string s.el, .string s.at_, .int .u8 s.d, .string s.pe, .string s.re, .int .i64 s.pa, .string s.wo, .int .i64 t.k, .string t.el, .string t.at_, .int .u8 t.d, .string t.pe, .string t.re, .int .i64 t.pa, .string t.wo, .int .i64 u.k, .string u.el, .string u.at_, .int .u8 u.d, .string u.pe, .string u.re, .int .i64 u.pa, .string u.wo] 42))
    fun e w' => e = .returned (.tuple #[(joinS StV.chk s [t, u]).1.agg, .int .i64 (joinS StV.chk s [t, u]).2]) ∧ Below w.heap.size w w' := by
  subst hr
  exact (join_any s [t, u] (by simp [h1, h2, h3]) w.heap.size 2 3 _ (row3 s t u (Blk.new _ _ _)) (by simp) rfl (by omega)).mono fun e w' ⟨h, hb⟩ => ⟨h, ((Below.refl _ _).alloc (Nat.le_refl _) _).trans (hb.mono (by simp))⟩

def StV.one_ : StV := ⟨1, ⟨#[]⟩, ⟨#[]⟩, 0, ⟨#[]⟩, ⟨#[]⟩, 0, ⟨#[]⟩⟩
theorem join00 : joinS StV.chk StV.none_ [StV.none_] = (StV.none_, 0) := by
  have h1 : firstErr StV.chk [StV.none_, StV.none_] = 0 := by decide +kernel
  have h2 : [StV.none_, StV.none_].any (fun x => !x.same StV.none_) = false := by decide +kernel
  unfold joinS
  rw [if_neg (by simp [h1]), if_neg (by simp [h2])]
theorem join01 : joinS StV.chk StV.none_ [StV.one_] = (StV.none_, 92) := by
  have h1 : firstErr StV.chk [StV.none_, StV.one_] = 0 := by decide +kernel
  have h2 : [StV.none_, StV.one_].any (fun x => !x.same StV.none_) = true := by decide +kernel
  unfold joinS
  rw [if_neg (by simp [h1]), if_pos h2]
set_option maxHeartbeats 1000000 in
set_option maxRecDepth 100000 in
theorem alive24 (w : World) : Calls Try.prog 27 #[] w fun e w' => e = .returned (.bool true) ∧ Below w.heap.size w w' := by
  have c1 := hide (join2_any StV.none_ StV.none_ ⟨by decide, by decide⟩ ⟨by decide, by decide⟩)
  have c2 := hide (join2_any StV.none_ StV.one_ ⟨by decide, by decide⟩ ⟨by decide, by decide⟩)
  rw [join00] at c1
  rw [join01] at c2
  go_enter Try.func27, Try.ntmps27
  go_wp2_with fail
  refine (c1.out _ _ (by simp)).mono ?_
  rintro e w1 ⟨rfl, hb1⟩
  unfold StV.none_ StV.agg
  go_wp2_with fail
  refine (c2.out (w1.alloc _) _ (by simp)).mono ?_
  rintro e w2 ⟨rfl, hb2⟩
  unfold StV.none_ StV.agg
  have hX := (Blk.new w1 42 #[.int .i64 0, .string ⟨#[]⟩, .string ⟨#[]⟩, .int .u8 0, .string ⟨#[]⟩, .string ⟨#[]⟩, .int .i64 0, .string ⟨#[]⟩]).below hb2 (by simp)
  obtain ⟨z0, z1, z2, z3, z4, z5, z6, z7⟩ := hX.eight
  have hl := hX.lt
  have hsame : sameV 0 ⟨#[]⟩ ⟨#[]⟩ 0 ⟨#[]⟩ ⟨#[]⟩ 0 ⟨#[]⟩ 0 ⟨#[]⟩ ⟨#[]⟩ 0 ⟨#[]⟩ ⟨#[]⟩ 0 ⟨#[]⟩ = true := by simp [sameV]
  go_wp2_with (go_at_call 54; go_in)
  go_ret
  exact ⟨rfl, hb1.trans ((((Below.refl _ _).alloc (Nat.le_refl _) _).trans (hb2.mono (by simp))).alloc (by omega) _ |>.mono hb1.size)⟩
theorem Blk.new1 (w : World) (o : Obj) (t : TypeId) (cs : Array Value) : Blk ((w.alloc o).alloc (.cells cs t)) (w.heap.size + 1) t cs := by
  have := Blk.new (w.alloc o) t cs
  simpa using this
theorem Blk.new2 (w : World) (o o2 : Obj) (t : TypeId) (cs : Array Value) : Blk (((w.alloc o).alloc o2).alloc (.cells cs t)) (w.heap.size + 1 + 1) t cs := by
  have := Blk.new ((w.alloc o).alloc o2) t cs
  simpa using this

theorem Blk.box (w : World) (t : TypeId) (z0 z1 z2 z3 z4 z5 z6 z7 v0 v1 v2 v3 v4 v5 v6 v7 : Value) :
    Blk (((((((((w.alloc (.cells #[z0, z1, z2, z3, z4, z5, z6, z7] t)).setCell ⟨w.heap.size, 0, none⟩ v0).setCell ⟨w.heap.size, 1, none⟩ v1).setCell ⟨w.heap.size, 2, none⟩ v2).setCell ⟨w.heap.size, 3, none⟩ v3).setCell ⟨w.heap.size, 4, none⟩ v4).setCell ⟨w.heap.size, 5, none⟩ v5).setCell ⟨w.heap.size, 6, none⟩ v6).setCell ⟨w.heap.size, 7, none⟩ v7) w.heap.size t #[v0, v1, v2, v3, v4, v5, v6, v7] := by
  have h := ((((((((Blk.new w t #[z0, z1, z2, z3, z4, z5, z6, z7]).set_ 0 v0).set_ 1 v1).set_ 2 v2).set_ 3 v3).set_ 4 v4).set_ 5 v5).set_ 6 v6).set_ 7 v7
  simpa using h

set_option maxHeartbeats 2000000 in
set_option maxRecDepth 100000 in
theorem order_gen (s t u x y z : StV) (e1 e2 e3 : Int) (c1 : (Hid (∀ (w : World) (r : Nat), r = w.heap.size → Calls Try.prog 28 #[.slice (some ⟨r, 0, none⟩) 3 3] (w.alloc (.cells #[.int .i64 s.k, .string s.el, .string s.at_, .int .u8 s.d, .string s.pe, .string s.re, .int .i64 s.pa, .string s.wo, .int .i64 t.k, .string t.el, .string t.at_, .int .u8 t.d, .string t.pe, .string t.re, .int .i64 t.pa, .string t.wo, .int .i64 u.k, .string u.el, .string u.at_, .int .u8 u.d, .string u.pe, .string u.re, .int .i64 u.pa, .string u.wo] 42)) fun e w' => e = .returned (.tuple #[x.agg, .int .i64 e1]) ∧ Below w.heap.size w w'))) (c2 : (Hid (∀ (w : World) (r : Nat), r = w.heap.size → Calls Try.prog 28 #[.slice (some ⟨r, 0, none⟩) 3 3] (w.alloc (.cells #[.int .i64 u.k, .string u.el, .string u.at_, .int .u8 u.d, .string u.pe, .string u.re, .int .i64 u.pa, .string u.wo, .int .i64 s.k, .string s.el, .string s.at_, .int .u8 s.d, .string s.pe, .string s.re, .int .i64 s.pa, .string s.wo, .int .i64 t.k, .string t.el, .string t.at_, .int .u8 t.d, .string t.pe, .string t.re, .int .i64 t.pa, .string t.wo] 42)) fun e w' => e = .returned (.tuple #[y.agg, .int .i64 e2]) ∧ Below w.heap.size w w'))) (c3 : (Hid (∀ (w : World) (r : Nat), r = w.heap.size → Calls Try.prog 28 #[.slice (some ⟨r, 0, none⟩) 3 3] (w.alloc (.cells #[.int .i64 t.k, .string t.el, .string t.at_, .int .u8 t.d, .string t.pe, .string t.re, .int .i64 t.pa, .string t.wo, .int .i64 u.k, .string u.el, .string u.at_, .int .u8 u.d, .string u.pe, .string u.re, .int .i64 u.pa, .string u.wo, .int .i64 s.k, .string s.el, .string s.at_, .int .u8 s.d, .string s.pe, .string s.re, .int .i64 s.pa, .string s.wo] 42)) fun e w' => e = .returned (.tuple #[z.agg, .int .i64 e3]) ∧ Below w.heap.size w w')))
    (h : (e1 = 0 ∧ e2 = 0 ∧ e3 = 0 ∧ x = y ∧ y = z) ∨ ((e1 == 0) = false ∧ (e2 == 0) = false ∧ (e3 == 0) = false)) (w : World) :
    Calls Try.prog 8 #[.agg #[.int .i64 s.k, .string s.el, .string s.at_, .int .u8 s.d, .string s.pe, .string s.re, .int .i64 s.pa, .string s.wo], .agg #[.int .i64 t.k, .string t.el, .string t.at_, .int .u8 t.d, .string t.pe, .string t.re, .int .i64 t.pa, .string t.wo], .agg #[.int .i64 u.k, .string u.el, .string u.at_, .int .u8 u.d, .string u.pe, .string u.re, .int .i64 u.pa, .string u.wo]] w fun e w' => e = .returned (.bool true) ∧ Below w.heap.size w w' := by
  go_enter Try.func8, Try.ntmps8
  go_wp2_with fail
  refine (alive24 _).mono ?_
  rintro e w1 ⟨rfl, hb1⟩
  have hB : Below w.heap.size w w1 := ((((Below.refl _ _).alloc (Nat.le_refl _) _).alloc (by simp) _).alloc (by simp; omega) _).trans (hb1.mono (by simp; omega))
  have hP : Blk w1 w.heap.size 42 #[.int .i64 s.k, .string s.el, .string s.at_, .int .u8 s.d, .string s.pe, .string s.re, .int .i64 s.pa, .string s.wo] := ((((Blk.new _ _ _).alloc _).alloc _).below hb1 (by simp; omega))
  have hQ : Blk w1 (w.heap.size + 1) 42 #[.int .i64 t.k, .string t.el, .string t.at_, .int .u8 t.d, .string t.pe, .string t.re, .int .i64 t.pa, .string t.wo] := ((Blk.new1 w _ 42 #[.int .i64 t.k, .string t.el, .string t.at_, .int .u8 t.d, .string t.pe, .string t.re, .int .i64 t.pa, .string t.wo]).alloc _).below hb1 (by first | (simp; done) | (simp; omega))
  have hR : Blk w1 (w.heap.size + 1 + 1) 42 #[.int .i64 u.k, .string u.el, .string u.at_, .int .u8 u.d, .string u.pe, .string u.re, .int .i64 u.pa, .string u.wo] := (Blk.new2 w _ _ 42 #[.int .i64 u.k, .string u.el, .string u.at_, .int .u8 u.d, .string u.pe, .string u.re, .int .i64 u.pa, .string u.wo]).below hb1 (by simp)
  have zP := hP.lt; have zQ := hQ.lt; have zR := hR.lt
  clear hb1
  obtain ⟨p0, p1, p2, p3, p4, p5, p6, p7⟩ := hP.eight
  obtain ⟨q0, q1, q2, q3, q4, q5, q6, q7⟩ := hQ.eight
  obtain ⟨r0, r1, r2, r3, r4, r5, r6, r7⟩ := hR.eight
  go_wp2_with fail
  refine (c1.out _ _ rfl).mono ?_
  rintro e w2 ⟨rfl, hb2⟩
  unfold StV.agg
  have hB := hB.trans (hb2.mono (by omega))
  have hP := hP.below hb2 (by omega); have hQ := hQ.below hb2 (by omega); have hR := hR.below hb2 (by omega)
  clear hb2
  clear p0 p1 p2 p3 p4 p5 p6 p7 q0 q1 q2 q3 q4 q5 q6 q7 r0 r1 r2 r3 r4 r5 r6 r7 zP zQ zR
  have zP := hP.lt; have zQ := hQ.lt; have zR := hR.lt
  obtain ⟨p0, p1, p2, p3, p4, p5, p6, p7⟩ := hP.eight
  obtain ⟨q0, q1, q2, q3, q4, q5, q6, q7⟩ := hQ.eight
  obtain ⟨r0, r1, r2, r3, r4, r5, r6, r7⟩ := hR.eight
  go_wp2_with fail
  refine (c2.out (w2.alloc _) _ (by simp)).mono ?_
  rintro e w3 ⟨rfl, hb3⟩
  unfold StV.agg
  have hX := (Blk.new w2 42 #[.int .i64 x.k, .string x.el, .string x.at_, .int .u8 x.d, .string x.pe, .string x.re, .int .i64 x.pa, .string x.wo]).below hb3 (by simp)
  have hb3 := ((Below.refl _ _).alloc (Nat.le_refl _) _).trans (hb3.mono (by simp))
  have hB := hB.trans (hb3.mono (by omega))
  have hP := hP.below hb3 (by omega); have hQ := hQ.below hb3 (by omega); have hR := hR.below hb3 (by omega)
  clear hb3
  clear p0 p1 p2 p3 p4 p5 p6 p7 q0 q1 q2 q3 q4 q5 q6 q7 r0 r1 r2 r3 r4 r5 r6 r7 zP zQ zR
  have zP := hP.lt; have zQ := hQ.lt; have zR := hR.lt
  have zX := hX.lt
  obtain ⟨p0, p1, p2, p3, p4, p5, p6, p7⟩ := hP.eight
  obtain ⟨q0, q1, q2, q3, q4, q5, q6, q7⟩ := hQ.eight
  obtain ⟨r0, r1, r2, r3, r4, r5, r6, r7⟩ := hR.eight
  obtain ⟨x0, x1, x2, x3, x4, x5, x6, x7⟩ := hX.eight
  go_wp2_with fail
  refine (c3.out (w3.alloc _) _ (by simp)).mono ?_
  rintro e w4 ⟨rfl, hb4⟩
  unfold StV.agg
  have hY := (Blk.new w3 42 #[.int .i64 y.k, .string y.el, .string y.at_, .int .u8 y.d, .string y.pe, .string y.re, .int .i64 y.pa, .string y.wo]).below hb4 (by simp)
  have hb4 := ((Below.refl _ _).alloc (Nat.le_refl _) _).trans (hb4.mono (by simp))
  have hB := hB.trans (hb4.mono (by omega))
  have hX := hX.below hb4 (by omega)
  clear hb4 x0 x1 x2 x3 x4 x5 x6 x7
  clear p0 p1 p2 p3 p4 p5 p6 p7 q0 q1 q2 q3 q4 q5 q6 q7 r0 r1 r2 r3 r4 r5 r6 r7 zP zQ zR
  have zX := hX.lt; have zY := hY.lt
  obtain ⟨x0, x1, x2, x3, x4, x5, x6, x7⟩ := hX.eight
  obtain ⟨y0, y1, y2, y3, y4, y5, y6, y7⟩ := hY.eight
  have hs : ∀ s : StV, sameV s.k s.el s.at_ s.d s.pe s.re s.pa s.wo s.k s.el s.at_ s.d s.pe s.re s.pa s.wo = true := fun s => (same_iff s s).2 rfl
  rcases h with ⟨rfl, rfl, rfl, rfl, rfl⟩ | ⟨h1, h2, h3⟩
  · have hs := hs x
    go_wp2_with fail
    go_ret
    exact ⟨rfl, hB.alloc hB.size _⟩
  · go_wp2_with fail
    go_ret
    exact ⟨rfl, hB.alloc hB.size _⟩
theorem firstErr_zero (ck : StV → Int) (l : List StV) : firstErr ck l = 0 ↔ ∀ x ∈ l, ck x = 0 := by
  induction l with
  | nil => simp [firstErr]
  | cons a l ih =>
    by_cases h : ck a = 0
    · have e : firstErr ck (a :: l) = firstErr ck l := by simp [firstErr, h]
      rw [e, ih]
      simp [h]
    · have e : firstErr ck (a :: l) = ck a := by simp [firstErr, h]
      rw [e]
      simp [h]
theorem joinS_no (ck : StV → Int) (s : StV) (l : List StV) (h : ¬ ((∀ x ∈ s :: l, ck x = 0) ∧ ∀ x ∈ l, x = s)) : (joinS ck s l).2 ≠ 0 := by
  unfold joinS
  by_cases h1 : firstErr ck (s :: l) = 0
  · rw [if_neg (by simpa using h1)]
    by_cases h2 : (s :: l).any (fun x => !x.same s) = true
    · rw [if_pos h2]; simp
    · refine absurd ⟨(firstErr_zero ck _).1 h1, fun x hx => ?_⟩ h
      rw [List.any_eq_true] at h2
      have : ¬ (!x.same s) = true := fun hh => h2 ⟨x, List.mem_cons_of_mem _ hx, hh⟩
      exact (same_iff x s).1 (by simpa using this)
  · rw [if_pos (by simpa using h1)]
    exact h1
theorem joinS_yes (ck : StV → Int) (s : StV) (l : List StV) (h1 : ck s = 0) (h2 : ∀ x ∈ l, x = s) : joinS ck s l = (s, 0) := by
  unfold joinS
  have e1 : firstErr ck (s :: l) = 0 := (firstErr_zero ck _).2 (fun x hx => by
    rcases List.mem_cons.1 hx with rfl | hx
    · exact h1
    · rw [h2 x hx]; exact h1)
  have e2 : (s :: l).any (fun x => !x.same s) = false := by
    rw [List.any_eq_false]
    intro x hx
    have : x = s := by
      rcases List.mem_cons.1 hx with rfl | hx
      · rfl
      · exact h2 x hx
    rw [this, (same_iff s s).2 rfl]
    decide
  rw [if_neg (by simp [e1]), if_neg (by simp [e2])]
end Go.Proofs.Ytmgjhofecncgnaa
