/-
  eval.found.
-/
import Derived.Test.YtdnmgpidfjkiaaaVBack
import Derived.Test.YtdnmgpidfjkiaaaVWith
namespace Go.Proofs.Ytdnmgpidfjkiaaa
open Go.RowKit Go.Shelf
attribute [local go_sem] Oper.semAt_some
set_option linter.unusedVariables false
set_option linter.unusedSimpArgs false

/-- What the page says a name stands for. -/
def foundR {m : Nat} (nm : List UInt8) (root : VT m) (vars : List (List UInt8 × VT m)) : Option (VT m) := if nm = [] then some root else (vars.reverse.find? (fun p => decide (p.1 = nm))).map (·.2)
def FoundV (U : World → Nat → Prop) (w : World) (m : Nat) : Option (VT m) → Value → Int → Prop
  | some x, v, k => IsV U w m v x ∧ k = 0
  | none, v, k => v = (VF.val ⟨0, 0, ⟨#[]⟩, none, 0, 0, none, 0, 0⟩) ∧ k = 31
theorem mk_toList (l : List UInt8) : (⟨l.toArray⟩ : ByteArray).toList = l := by rw [Lib.toList_data]
theorem find_last {α : Type} (p : α → Bool) : ∀ (l : List α) (j : Nat) (x : α), l[j]? = some x → p x = true → (∀ (k : Nat) (y : α), j < k → l[k]? = some y → p y = false) → l.reverse.find? p = some x := by
  intro l j x hx hp hno
  have hlt := (List.getElem?_eq_some_iff.1 hx).1
  have hl : l = l.take j ++ x :: l.drop (j + 1) := by
    rw [← (List.getElem?_eq_some_iff.1 hx).2, List.getElem_cons_drop, List.take_append_drop]
  rw [hl, List.reverse_append, List.reverse_cons, List.append_assoc, List.find?_append]
  have h1 : (l.drop (j + 1)).reverse.find? p = none := by
    rw [List.find?_eq_none]
    intro y hy
    obtain ⟨k, hk⟩ := List.mem_iff_getElem?.1 (List.mem_reverse.1 hy)
    rw [List.getElem?_drop] at hk
    simp [hno _ y (by omega) hk]
  rw [h1]
  simp [hp]
theorem find_none {α : Type} (p : α → Bool) (l : List α) (h : ∀ (k : Nat) (y : α), l[k]? = some y → p y = false) : l.reverse.find? p = none := by
  rw [List.find?_eq_none]
  intro y hy
  obtain ⟨k, hk⟩ := List.mem_iff_getElem?.1 (List.mem_reverse.1 hy)
  simp [h k y hk]
/-- As 'NamesAt.list', the address outside. -/
theorem NamesAt.listB {U : World → Nat → Prop} {w : World} {n : Nat} {a : Option Addr} {l : List (List UInt8 × VT n)} (h : NamesAt U w n a l) :
    ∃ es : List NF, es.length = l.length ∧ (∀ (r : Nat) (e : NF) (x : List UInt8 × VT n), es[r]? = some e → l[r]? = some x → IsN U w n e x) ∧ (es ≠ [] → ∃ b off, a = some ⟨b, off, none⟩ ∧ b < w.heap.size ∧ ∀ t u, (es.flatMap NF.cells)[t]? = some u → w.cell? ⟨b, off + t, none⟩ = some u) := by
  obtain ⟨es, h1, h2, h3⟩ := h.list
  refine ⟨es, h1, h2, fun hne => ?_⟩
  have hpos : 0 < l.length := by rw [← h1]; exact List.length_pos_iff.2 hne
  obtain ⟨b, off, _, ha, hb, _⟩ := h 0 l[0] (List.getElem?_eq_getElem hpos)
  exact ⟨b, off, ha, hb, fun t u ht => by have := h3 _ ha t u ht; rwa [Addr.add_lit] at this⟩
abbrev nf0 : NF := ⟨⟨#[]⟩, ⟨0, 0, ⟨#[]⟩, none, 0, 0, none, 0, 0⟩⟩
set_option maxRecDepth 100000 in
set_option maxHeartbeats 8000000 in
theorem found_name (m : Nat) (kr ir : Int) (sr : ByteArray) (ar : Option Addr) (nr cr : Nat) (br : Option Addr) (mr er : Nat) (kd id : Int) (sd : ByteArray) (ad : Option Addr) (nd cd : Nat) (bd : Option Addr) (md ed : Nat) (vars : List (List UInt8 × VT m)) (a : Option Addr) (c : Nat) (nmb : ByteArray) (es : List NF) (w : World)
    (hes : es.length = vars.length) (hlen : vars.length * 96 ≤ 140737488355328) (hI : es ≠ [] → ∃ b off, a = some ⟨b, off, none⟩ ∧ b < w.heap.size ∧ ∀ t u, (es.flatMap NF.cells)[t]? = some u → w.cell? ⟨b, off + t, none⟩ = some u) (hne : nmb.toList.isEmpty = false) :
    Calls Try.prog 29 #[.agg (envV ⟨kr, ir, sr, ar, nr, cr, br, mr, er⟩ ⟨kd, id, sd, ad, nd, cd, bd, md, ed⟩ a vars.length c), .string nmb] w fun e w' => Below w.heap.size w w' ∧ ((e = .returned (.tuple #[(VF.val ⟨0, 0, ⟨#[]⟩, none, 0, 0, none, 0, 0⟩), .int .i64 31]) ∧ ∀ i, i < es.length → (es.getD i nf0).nm.toList ≠ nmb.toList) ∨
      (∃ j, j < es.length ∧ e = .returned (.tuple #[(es.getD j nf0).f.val, .int .i64 0]) ∧ (es.getD j nf0).nm.toList = nmb.toList ∧ ∀ i, j < i → i < es.length → (es.getD i nf0).nm.toList ≠ nmb.toList)) := by
  refine (callsIn_wide (n := 6)).1 ?_
  refine callsIn_of_wp_marks Try.func29 rfl trivial ?_ rfl
  simp only [Try.ntmps29, List.size_toArray, List.length_cons, List.length_nil, Nat.reduceAdd, Nat.reduceSub, Array.replicate_succ, Array.replicate_zero, List.push_toArray, List.append_toArray, List.nil_append, List.cons_append]
  gi_wp2_with fail
  refine ⟨trivial, ?_⟩
  refine (back_in Fence.wide 5 trivial rfl _ _ _ _).mono ?_
  rintro e w' ⟨rfl, rfl⟩
  gi_wp2_with fail
  have hB0 : Below w.heap.size w (((((w.alloc (.cells (envV ⟨kr, ir, sr, ar, nr, cr, br, mr, er⟩ ⟨kd, id, sd, ad, nd, cd, bd, md, ed⟩ a vars.length c) 32)).alloc (.cells #[.string nmb] 9)).alloc (.cells #[.int .i64 0, .int .i64 0, .string ⟨#[]⟩, .slice none 0 0, .slice none 0 0] 25)).alloc (.cells #[.int .i64 0] 35)).alloc (.cells #[.slice a vars.length c] 30)) := (((((Below.refl _ w).alloc (Nat.le_refl _) _).alloc (by simp) _).alloc (by simp; omega) _).alloc (by simp; omega) _).alloc (by simp; omega) _
  have k1 : Blk (((((w.alloc (.cells (envV ⟨kr, ir, sr, ar, nr, cr, br, mr, er⟩ ⟨kd, id, sd, ad, nd, cd, bd, md, ed⟩ a vars.length c) 32)).alloc (.cells #[.string nmb] 9)).alloc (.cells #[.int .i64 0, .int .i64 0, .string ⟨#[]⟩, .slice none 0 0, .slice none 0 0] 25)).alloc (.cells #[.int .i64 0] 35)).alloc (.cells #[.slice a vars.length c] 30)) (w.heap.size + 1) 9 #[.string nmb] := by
    have := ((((Blk.new (w.alloc (.cells (envV ⟨kr, ir, sr, ar, nr, cr, br, mr, er⟩ ⟨kd, id, sd, ad, nd, cd, bd, md, ed⟩ a vars.length c) 32)) 9 #[.string nmb]).alloc (.cells #[.int .i64 0, .int .i64 0, .string ⟨#[]⟩, .slice none 0 0, .slice none 0 0] 25)).alloc (.cells #[.int .i64 0] 35)).alloc (.cells #[.slice a vars.length c] 30))
    simpa using this
  have k2 : Blk (((((w.alloc (.cells (envV ⟨kr, ir, sr, ar, nr, cr, br, mr, er⟩ ⟨kd, id, sd, ad, nd, cd, bd, md, ed⟩ a vars.length c) 32)).alloc (.cells #[.string nmb] 9)).alloc (.cells #[.int .i64 0, .int .i64 0, .string ⟨#[]⟩, .slice none 0 0, .slice none 0 0] 25)).alloc (.cells #[.int .i64 0] 35)).alloc (.cells #[.slice a vars.length c] 30)) (w.heap.size + 1 + 1) 25 #[.int .i64 0, .int .i64 0, .string ⟨#[]⟩, .slice none 0 0, .slice none 0 0] := by
    have := (((Blk.new ((w.alloc (.cells (envV ⟨kr, ir, sr, ar, nr, cr, br, mr, er⟩ ⟨kd, id, sd, ad, nd, cd, bd, md, ed⟩ a vars.length c) 32)).alloc (.cells #[.string nmb] 9)) 25 #[.int .i64 0, .int .i64 0, .string ⟨#[]⟩, .slice none 0 0, .slice none 0 0]).alloc (.cells #[.int .i64 0] 35)).alloc (.cells #[.slice a vars.length c] 30))
    simpa using this
  have k3 : Blk (((((w.alloc (.cells (envV ⟨kr, ir, sr, ar, nr, cr, br, mr, er⟩ ⟨kd, id, sd, ad, nd, cd, bd, md, ed⟩ a vars.length c) 32)).alloc (.cells #[.string nmb] 9)).alloc (.cells #[.int .i64 0, .int .i64 0, .string ⟨#[]⟩, .slice none 0 0, .slice none 0 0] 25)).alloc (.cells #[.int .i64 0] 35)).alloc (.cells #[.slice a vars.length c] 30)) (w.heap.size + 1 + 1 + 1) 35 #[.int .i64 0] := by
    have := ((Blk.new (((w.alloc (.cells (envV ⟨kr, ir, sr, ar, nr, cr, br, mr, er⟩ ⟨kd, id, sd, ad, nd, cd, bd, md, ed⟩ a vars.length c) 32)).alloc (.cells #[.string nmb] 9)).alloc (.cells #[.int .i64 0, .int .i64 0, .string ⟨#[]⟩, .slice none 0 0, .slice none 0 0] 25)) 35 #[.int .i64 0]).alloc (.cells #[.slice a vars.length c] 30))
    simpa using this
  have k4 : Blk (((((w.alloc (.cells (envV ⟨kr, ir, sr, ar, nr, cr, br, mr, er⟩ ⟨kd, id, sd, ad, nd, cd, bd, md, ed⟩ a vars.length c) 32)).alloc (.cells #[.string nmb] 9)).alloc (.cells #[.int .i64 0, .int .i64 0, .string ⟨#[]⟩, .slice none 0 0, .slice none 0 0] 25)).alloc (.cells #[.int .i64 0] 35)).alloc (.cells #[.slice a vars.length c] 30)) (w.heap.size + 1 + 1 + 1 + 1) 30 #[.slice a vars.length c] := by
    have := Blk.new ((((w.alloc (.cells (envV ⟨kr, ir, sr, ar, nr, cr, br, mr, er⟩ ⟨kd, id, sd, ad, nd, cd, bd, md, ed⟩ a vars.length c) 32)).alloc (.cells #[.string nmb] 9)).alloc (.cells #[.int .i64 0, .int .i64 0, .string ⟨#[]⟩, .slice none 0 0, .slice none 0 0] 25)).alloc (.cells #[.int .i64 0] 35)) 30 #[.slice a vars.length c]
    simpa using this
  have hz : (((((w.alloc (.cells (envV ⟨kr, ir, sr, ar, nr, cr, br, mr, er⟩ ⟨kd, id, sd, ad, nd, cd, bd, md, ed⟩ a vars.length c) 32)).alloc (.cells #[.string nmb] 9)).alloc (.cells #[.int .i64 0, .int .i64 0, .string ⟨#[]⟩, .slice none 0 0, .slice none 0 0] 25)).alloc (.cells #[.int .i64 0] 35)).alloc (.cells #[.slice a vars.length c] 30)).heap.size = w.heap.size + 5 := by simp
  have HI := hide hI
  obtain ⟨W, hW⟩ : ∃ W, ((((w.alloc (.cells (envV ⟨kr, ir, sr, ar, nr, cr, br, mr, er⟩ ⟨kd, id, sd, ad, nd, cd, bd, md, ed⟩ a vars.length c) 32)).alloc (.cells #[.string nmb] 9)).alloc (.cells #[.int .i64 0, .int .i64 0, .string ⟨#[]⟩, .slice none 0 0, .slice none 0 0] 25)).alloc (.cells #[.int .i64 0] 35)).alloc (.cells #[.slice a vars.length c] 30) = W := ⟨_, rfl⟩
  rw [hW] at hB0 k1 k2 k3 k4 hz ⊢
  clear hW hI
  refine wpIn_range_leave rfl (by omega) (gf := 63) (lb := #[.pointer (some ⟨w.heap.size + 1 + 1 + 1 + 1, 0, none⟩)]) rfl trivial (enters_of Try.func63 (by kernel_rfl) rfl)
    (back_stops Fence.wide 5 trivial rfl (by omega) (w.heap.size + 1 + 1 + 1 + 1) a c es (by omega) W k4.lt (by have := k4.cell 0; simp at this; rw [hes]; exact this) (fun h => by
      obtain ⟨b, off, h1, h2, h3⟩ := HI.out h
      exact ⟨b, off, h1, by omega, fun t u ht => (hB0.cell (p := ⟨b, off + t, none⟩) h2).trans (h3 t u ht)⟩)) belowK_t (belowK_b (Nat.le_refl _)) (fun X Y hx hg => (Below.refl W.heap.size X).grown hg hx (fun k e => by cases e)) (Below.refl _ _) (fun _ => rfl)
    (fun pre X => (∀ i ∈ pre, (es.getD i nf0).nm.toList ≠ nmb.toList) ∧ Below W.heap.size W X)
    (fun pre X => ∃ ini j, pre = ini ++ [j] ∧ (∀ i ∈ ini, (es.getD i nf0).nm.toList ≠ nmb.toList) ∧ (es.getD j nf0).nm.toList = nmb.toList ∧ Below w.heap.size w X ∧ Blk X (w.heap.size + 1 + 1) 25 (es.getD j nf0).f.cells.toArray ∧ Blk X (w.heap.size + 1 + 1 + 1) 35 #[.int .i64 0])
    ?own ?ownx ⟨by simp, Below.refl _ _⟩
    (fun j a' X => ∃ bv, W.heap.size ≤ bv ∧ a' = { tmps := #[.agg (envV ⟨kr, ir, sr, ar, nr, cr, br, mr, er⟩ ⟨kd, id, sd, ad, nd, cd, bd, md, ed⟩ a vars.length c), .string nmb, .pointer (some ⟨w.heap.size, 0, none⟩), .pointer (some ⟨w.heap.size + 1, 0, none⟩), .pointer (some ⟨w.heap.size + 1 + 1, 0, none⟩), .pointer (some ⟨w.heap.size + 1 + 1 + 1, 0, none⟩), undef, .pointer (some ⟨bv, 0, none⟩), .string nmb, .bool false, undef, undef, .pointer (some ⟨w.heap.size, 10, none⟩), .slice a vars.length c, .func (.func 63) #[] #[.pointer (some ⟨w.heap.size + 1 + 1 + 1 + 1, 0, none⟩)], .int .i64 (j : Int), (es.getD j nf0).val, undef, undef, undef, undef, undef, undef, undef], defers := [] } ∧ Blk X bv 58 (es.getD j nf0).cells.toArray)
    ?pb ?assign ?body ?done ?stop
  case own =>
    rintro s X Y row ⟨h1, h2⟩ hg hr
    exact ⟨h1, h2.grown hg h2.size fun k e => (hr k e).1⟩
  case ownx =>
    rintro s X Y row ⟨ini, j, h1, h2, h3, h4, h5, h6⟩ hg hr
    exact ⟨ini, j, h1, h2, h3, h4.grown hg h4.size (fun k e => by have := (hr k e).1; omega), h5.grown hg (fun e => by have := (hr _ e.symm).1; omega), h6.grown hg (fun e => by have := (hr _ e.symm).1; omega)⟩
  case pb =>
    rintro j a' X l o o' ⟨bv, h1, h2, h3⟩ ho hc
    refine ⟨bv, h1, h2, h3.grown (grownBy_putObj' X l o') (fun e => ?_)⟩
    injection e with e
    subst e
    have h3' : X.heap[bv]? = _ := h3
    rw [ho] at h3'
    injection h3' with h3'
    rw [h3'] at hc
    cases hc
  case assign =>
    intro l j X K hX hK
    have hen : encN es j = #[.int .i64 (j : Int), (es.getD j nf0).val] := rfl
    rw [hen]
    obtain ⟨e, he⟩ : ∃ e, es.getD j nf0 = e := ⟨_, rfl⟩
    rw [he] at hK ⊢
    obtain ⟨nmj, kj, ij, sj, aj, nj, cj, bj, mj, ej⟩ := e
    clear hen
    have HKK := hide hK
    clear hK
    gi_wp2
    refine HKK.out _ _ (World.grownBy_alloc X _ none) ⟨X.heap.size, hX, rfl, ?_⟩
    exact Blk.new _ _ _
  case body =>
    rintro l pre j a' X ⟨bv, hbv, rfl, kv⟩ ⟨hp, hB⟩ hlen2
    obtain ⟨e, he⟩ : ∃ e, es.getD j nf0 = e := ⟨_, rfl⟩
    have HHE := hide he
    rw [he] at kv ⊢
    obtain ⟨nmj, kj, ij, sj, aj, nj, cj, bj, mj, ej⟩ := e
    have c0 := kv.cell 0; have c1 := kv.cell 1; have c2 := kv.cell 2; have c3 := kv.cell 3; have c4 := kv.cell 4; have c5 := kv.cell 5
    simp [NF.cells] at c0 c1 c2 c3 c4 c5
    have j1 := (k1.below hB k1.lt).cell 0
    have K2 := k2.below hB k2.lt
    have K3 := k3.below hB k3.lt
    have d0 := K2.cell 0; have d1 := K2.cell 1; have d2 := K2.cell 2; have d3 := K2.cell 3; have d4 := K2.cell 4; have d5 := K3.cell 0
    have f0 := K2.frozen 0; have f1 := K2.frozen 1; have f2 := K2.frozen 2; have f3 := K2.frozen 3; have f4 := K2.frozen 4; have f5 := K3.frozen 0
    simp at j1 d0 d1 d2 d3 d4 d5
    have HP := hide hp; have HB := hide hB; have HB0 := hide hB0; have HK2 := hide K2; have HK3 := hide K3
    have hzX := hB.size
    clear hp hB hB0 he kv k1 k2 k3 k4 K2 K3
    by_cases hx : nmj.toList = nmb.toList
    · have hx2 : (nmj.toList == nmb.toList) = true := by simp [hx]
      have HX := hide hx
      clear hx
      gi_wp2
      have hZ := (((((((KeepsOthers.setCell X ⟨w.heap.size + 1 + 1, 0, none⟩ (.int .i64 kj)).trans (KeepsOthers.setCell _ ⟨w.heap.size + 1 + 1, 1, none⟩ (.int .i64 ij))).trans (KeepsOthers.setCell _ ⟨w.heap.size + 1 + 1, 2, none⟩ (.string sj))).trans (KeepsOthers.setCell _ ⟨w.heap.size + 1 + 1, 3, none⟩ (.slice aj nj cj))).trans (KeepsOthers.setCell _ ⟨w.heap.size + 1 + 1, 4, none⟩ (.slice bj mj ej))).trans (KeepsOthers.setCell _ ⟨w.heap.size + 1 + 1 + 1, 0, none⟩ (.int .i64 0))).from W.heap.size)
      refine ⟨hZ, pre, j, rfl, HP.out, by rw [HHE.out]; exact HX.out, ?_, ?_, ?_⟩
      · exact (((((((HB0.out.trans (HB.out.mono HB0.out.size)).setCell (p := ⟨w.heap.size + 1 + 1, 0, none⟩) (by simp; omega) _).setCell (p := ⟨w.heap.size + 1 + 1, 1, none⟩) (by simp; omega) _).setCell (p := ⟨w.heap.size + 1 + 1, 2, none⟩) (by simp; omega) _).setCell (p := ⟨w.heap.size + 1 + 1, 3, none⟩) (by simp; omega) _).setCell (p := ⟨w.heap.size + 1 + 1, 4, none⟩) (by simp; omega) _).setCell (p := ⟨w.heap.size + 1 + 1 + 1, 0, none⟩) (by simp; omega) _)
      · rw [HHE.out]
        have := (((((HK2.out.set_ 0 (.int .i64 kj)).set_ 1 (.int .i64 ij)).set_ 2 (.string sj)).set_ 3 (.slice aj nj cj)).set_ 4 (.slice bj mj ej)).far (p := ⟨w.heap.size + 1 + 1 + 1, 0, none⟩) (by simp) (.int .i64 0)
        simpa [VF.cells] using this
      · have := (((((HK3.out.far (p := ⟨w.heap.size + 1 + 1, 0, none⟩) (by simp) (.int .i64 kj)).far (p := ⟨w.heap.size + 1 + 1, 1, none⟩) (by simp) (.int .i64 ij)).far (p := ⟨w.heap.size + 1 + 1, 2, none⟩) (by simp) (.string sj)).far (p := ⟨w.heap.size + 1 + 1, 3, none⟩) (by simp) (.slice aj nj cj)).far (p := ⟨w.heap.size + 1 + 1, 4, none⟩) (by simp) (.slice bj mj ej)).set_ 0 (.int .i64 0)
        simpa using this
    · have hx2 : (nmj.toList == nmb.toList) = false := by simp [hx]
      have HX := hide hx
      clear hx
      gi_wp2
      refine ⟨KeepsFrom.refl _ _, Below.refl _ _, fun i hi => ?_, HB.out⟩
      rcases List.mem_append.1 hi with h | h
      · exact HP.out i h
      · obtain rfl : i = j := by simpa using h
        rw [HHE.out]
        exact HX.out
  case done =>
    rintro D ys X hD rfl ⟨hp, hB⟩ hK
    have K2 := k2.below hB k2.lt
    have K3 := k3.below hB k3.lt
    have d0 := K2.cell 0; have d1 := K2.cell 1; have d2 := K2.cell 2; have d3 := K2.cell 3; have d4 := K2.cell 4; have d5 := K3.cell 0
    have f0 := K2.frozen 0; have f1 := K2.frozen 1; have f2 := K2.frozen 2; have f3 := K2.frozen 3; have f4 := K2.frozen 4; have f5 := K3.frozen 0
    simp at d0 d1 d2 d3 d4 d5
    have HP := hide hp; have HB := hide hB; have HB0 := hide hB0; have HK2 := hide K2; have HK3 := hide K3; have HHK := hide hK
    clear hp hB hB0 k1 k2 k3 k4 K2 K3 hK
    gi_wp2
    have hZw := ((((((HB0.out.trans (HB.out.mono HB0.out.size)).setCell (p := ⟨w.heap.size + 1 + 1, 0, none⟩) (by simp; omega) (.int .i64 0)).setCell (p := ⟨w.heap.size + 1 + 1, 1, none⟩) (by simp; omega) (.int .i64 0)).setCell (p := ⟨w.heap.size + 1 + 1, 2, none⟩) (by simp; omega) (.string ⟨#[]⟩)).setCell (p := ⟨w.heap.size + 1 + 1, 3, none⟩) (by simp; omega) (.slice none 0 0)).setCell (p := ⟨w.heap.size + 1 + 1, 4, none⟩) (by simp; omega) (.slice none 0 0)).setCell (p := ⟨w.heap.size + 1 + 1 + 1, 0, none⟩) (by simp; omega) (.int .i64 31)
    have b2 := (((((HK2.out.set_ 0 (.int .i64 0)).set_ 1 (.int .i64 0)).set_ 2 (.string ⟨#[]⟩)).set_ 3 (.slice none 0 0)).set_ 4 (.slice none 0 0)).far (p := ⟨w.heap.size + 1 + 1 + 1, 0, none⟩) (by simp) (.int .i64 31)
    have b3 := (((((HK3.out.far (p := ⟨w.heap.size + 1 + 1, 0, none⟩) (by simp) (.int .i64 0)).far (p := ⟨w.heap.size + 1 + 1, 1, none⟩) (by simp) (.int .i64 0)).far (p := ⟨w.heap.size + 1 + 1, 2, none⟩) (by simp) (.string ⟨#[]⟩)).far (p := ⟨w.heap.size + 1 + 1, 3, none⟩) (by simp) (.slice none 0 0)).far (p := ⟨w.heap.size + 1 + 1, 4, none⟩) (by simp) (.slice none 0 0)).set_ 0 (.int .i64 31)
    have hKZ := (((((((KeepsOthers.setCell X ⟨w.heap.size + 1 + 1, 0, none⟩ (.int .i64 0)).trans (KeepsOthers.setCell _ ⟨w.heap.size + 1 + 1, 1, none⟩ (.int .i64 0))).trans (KeepsOthers.setCell _ ⟨w.heap.size + 1 + 1, 2, none⟩ (.string ⟨#[]⟩))).trans (KeepsOthers.setCell _ ⟨w.heap.size + 1 + 1, 3, none⟩ (.slice none 0 0))).trans (KeepsOthers.setCell _ ⟨w.heap.size + 1 + 1, 4, none⟩ (.slice none 0 0))).trans (KeepsOthers.setCell _ ⟨w.heap.size + 1 + 1 + 1, 0, none⟩ (.int .i64 31))).same D _ HHK.out rfl)
    generalize ((((((X.setCell ⟨w.heap.size + 1 + 1, 0, none⟩ (.int .i64 0)).setCell ⟨w.heap.size + 1 + 1, 1, none⟩ (.int .i64 0)).setCell ⟨w.heap.size + 1 + 1, 2, none⟩ (.string ⟨#[]⟩)).setCell ⟨w.heap.size + 1 + 1, 3, none⟩ (.slice none 0 0)).setCell ⟨w.heap.size + 1 + 1, 4, none⟩ (.slice none 0 0)).setCell ⟨w.heap.size + 1 + 1 + 1, 0, none⟩ (.int .i64 31)) = Z at hZw b2 b3 hKZ ⊢
    refine ⟨by simp, .inl ⟨_, _, rfl, run_takeDeferred hKZ, ?_⟩⟩
    have g2 := b2.grown (grownBy_putObj' Z D (.deferred none)) (fun e => by injection e with e; omega)
    have g3 := b3.grown (grownBy_putObj' Z D (.deferred none)) (fun e => by injection e with e; omega)
    have r0 := g2.cell 0; have r1 := g2.cell 1; have r2 := g2.cell 2; have r3 := g2.cell 3; have r4 := g2.cell 4; have r5 := g3.cell 0
    simp at r0 r1 r2 r3 r4 r5
    refine ⟨.tuple #[(VF.val ⟨0, 0, ⟨#[]⟩, none, 0, 0, none, 0, 0⟩), .int .i64 31], ?_, ?_, .inl ⟨rfl, fun i hi => HP.out i (dnl_mem (Nat.zero_le _) hi)⟩⟩
    · simp [results, Try.results29, go_sem, r0, r1, r2, r3, r4, r5]
    · exact hZw.trans (belowK_b (w := w) (Nat.le_refl _) _ D _ _ (by omega) hKZ rfl rfl)
  case stop =>
    rintro D pre X hD ⟨k, hk, rfl⟩ ⟨ini, j, h1, h2, h3, h4, h5, h6⟩ hK
    have hkl : k < es.length := by
      rcases Nat.lt_or_ge k es.length with h | h
      · exact h
      · obtain rfl : k = es.length := by omega
        rw [dnl_self] at h1
        simp at h1
    rw [dnl_step hkl] at h1
    obtain ⟨rfl, e5⟩ := List.append_inj' h1 rfl
    obtain rfl : k = j := by simpa using e5
    gi_wp2
    refine ⟨by simp, .inl ⟨_, _, rfl, run_takeDeferred hK, ?_⟩⟩
    have g2 := h5.grown (grownBy_putObj' X D (.deferred none)) (fun e => by injection e with e; omega)
    have g3 := h6.grown (grownBy_putObj' X D (.deferred none)) (fun e => by injection e with e; omega)
    have r0 := g2.cell 0; have r1 := g2.cell 1; have r2 := g2.cell 2; have r3 := g2.cell 3; have r4 := g2.cell 4; have r5 := g3.cell 0
    simp [VF.cells] at r0 r1 r2 r3 r4 r5
    refine ⟨.tuple #[(es.getD k nf0).f.val, .int .i64 0], ?_, ?_, .inr ⟨k, by omega, rfl, h3, fun i hi hi2 => h2 i (dnl_mem (by omega) (by omega))⟩⟩
    · simp [results, Try.results29, go_sem, r0, r1, r2, r3, r4, r5]
    · exact h4.trans (belowK_b (w := w) (Nat.le_refl _) X D _ _ (by omega) hK rfl rfl)
set_option maxRecDepth 100000 in
set_option maxHeartbeats 4000000 in
theorem found_root (kr ir : Int) (sr : ByteArray) (ar : Option Addr) (nr cr : Nat) (br : Option Addr) (mr er : Nat) (kd id : Int) (sd : ByteArray) (ad : Option Addr) (nd cd : Nat) (bd : Option Addr) (md ed : Nat) (a : Option Addr) (n c : Nat) (w : World) :
    Calls Try.prog 29 #[.agg (envV ⟨kr, ir, sr, ar, nr, cr, br, mr, er⟩ ⟨kd, id, sd, ad, nd, cd, bd, md, ed⟩ a n c), .string ⟨#[]⟩] w fun e w' => Below w.heap.size w w' ∧ e = .returned (.tuple #[(VF.val ⟨kr, ir, sr, ar, nr, cr, br, mr, er⟩), .int .i64 0]) := by
  go_enter Try.func29, Try.ntmps29
  go_wp2_with fail
  have hB := (((((Below.refl w.heap.size w).alloc (Nat.le_refl _) (.cells (envV ⟨kr, ir, sr, ar, nr, cr, br, mr, er⟩ ⟨kd, id, sd, ad, nd, cd, bd, md, ed⟩ a n c) 32)).alloc (by simp) (.cells #[.string ⟨#[]⟩] 9)).alloc (by simp; omega) (.cells #[.int .i64 kr, .int .i64 ir, .string sr, .slice ar nr cr, .slice br mr er] 25)).alloc (by simp; omega) (.cells #[.int .i64 0] 35))
  have k2 := (Blk.new ((w.alloc (.cells (envV ⟨kr, ir, sr, ar, nr, cr, br, mr, er⟩ ⟨kd, id, sd, ad, nd, cd, bd, md, ed⟩ a n c) 32)).alloc (.cells #[.string ⟨#[]⟩] 9)) 25 #[.int .i64 kr, .int .i64 ir, .string sr, .slice ar nr cr, .slice br mr er]).alloc (.cells #[.int .i64 0] 35)
  have k3 := Blk.new (((w.alloc (.cells (envV ⟨kr, ir, sr, ar, nr, cr, br, mr, er⟩ ⟨kd, id, sd, ad, nd, cd, bd, md, ed⟩ a n c) 32)).alloc (.cells #[.string ⟨#[]⟩] 9)).alloc (.cells #[.int .i64 kr, .int .i64 ir, .string sr, .slice ar nr cr, .slice br mr er] 25)) 35 #[.int .i64 0]
  generalize (((w.alloc (.cells (envV ⟨kr, ir, sr, ar, nr, cr, br, mr, er⟩ ⟨kd, id, sd, ad, nd, cd, bd, md, ed⟩ a n c) 32)).alloc (.cells #[.string ⟨#[]⟩] 9)).alloc (.cells #[.int .i64 kr, .int .i64 ir, .string sr, .slice ar nr cr, .slice br mr er] 25)).alloc (.cells #[.int .i64 0] 35) = Z at hB k2 k3 ⊢
  have r0 := k2.cell 0; have r1 := k2.cell 1; have r2 := k2.cell 2; have r3 := k2.cell 3; have r4 := k2.cell 4; have r5 := k3.cell 0
  simp at r0 r1 r2 r3 r4 r5
  have HB := hide hB
  clear hB k2 k3
  simp [bodyPost, results, Try.results29, go_sem, r0, r1, r2, r3, r4, r5]
  exact HB.out
theorem found_any (m : Nat) (U : World → Nat → Prop) (hU : ∀ w w' b, Below w.heap.size w w' → b < w.heap.size → U w b → U w' b) (r d : VF) (root dot : VT m) (vars : List (List UInt8 × VT m)) (a : Option Addr) (c : Nat) (nm : List UInt8) (w : World)
    (h : IsE U w m r d a root dot vars) (hlen : vars.length * 96 ≤ 140737488355328) :
    Calls Try.prog 29 #[.agg (envV r d a vars.length c), .string ⟨nm.toArray⟩] w fun e w' => ∃ (v : VF) (k : Int), e = .returned (.tuple #[v.val, .int .i64 k]) ∧ FoundV U w' m (foundR nm root vars) v.val k ∧ Below w.heap.size w w' := by
  obtain ⟨kr, ir, sr, ar, nr, cr, br, mr, er⟩ := r
  obtain ⟨kd, id, sd, ad, nd, cd, bd, md, ed⟩ := d
  rcases Classical.em (nm = []) with hn | hn
  · subst hn
    refine (found_root kr ir sr ar nr cr br mr er kd id sd ad nd cd bd md ed a vars.length c w).mono ?_
    rintro e w' ⟨hb, rfl⟩
    exact ⟨_, _, rfl, ⟨IsV.on (Stays.of_below hb fun b h1 => hU _ _ b hb h1) m _ _ h.root, rfl⟩, hb⟩
  · obtain ⟨es, hes, hN, hI⟩ := h.vars.listB
    have hget : ∀ i x, vars[i]? = some x → ∃ e, es.getD i nf0 = e ∧ es[i]? = some e ∧ e.nm.toList = x.1 ∧ IsV U w m e.f.val x.2 := by
      intro i x hx
      have hlt := (List.getElem?_eq_some_iff.1 hx).1
      have he : es[i]? = some es[i] := List.getElem?_eq_getElem (by omega)
      obtain ⟨h1, h2⟩ := hN i es[i] x he hx
      exact ⟨es[i], by simp [List.getD, he], he, by rw [h1]; exact mk_toList _, h2⟩
    refine (found_name m kr ir sr ar nr cr br mr er kd id sd ad nd cd bd md ed vars a c ⟨nm.toArray⟩ es w hes hlen hI (by rw [mk_toList]; simp [hn])).mono ?_
    rw [mk_toList]
    rintro e w' ⟨hb, ⟨rfl, hno⟩ | ⟨j, hj, rfl, hyes, hno⟩⟩
    · refine ⟨_, _, rfl, ?_, hb⟩
      have : foundR nm root vars = none := by
        unfold foundR
        rw [if_neg hn, find_none]
        · rfl
        · intro k y hy
          obtain ⟨e, e1, e2, e3, _⟩ := hget k y hy
          have := hno k (List.getElem?_eq_some_iff.1 e2).1
          rw [e1, e3] at this
          simpa using this
      rw [this]
      exact ⟨rfl, rfl⟩
    · refine ⟨_, _, rfl, ?_, hb⟩
      obtain ⟨x, hx⟩ : ∃ x, vars[j]? = some x := ⟨_, List.getElem?_eq_getElem (by omega)⟩
      obtain ⟨e, e1, e2, e3, e4⟩ := hget j x hx
      have : foundR nm root vars = some x.2 := by
        unfold foundR
        rw [if_neg hn, find_last _ vars j x hx]
        · rfl
        · rw [e1, e3] at hyes; simpa using hyes
        · intro k y hk hy
          obtain ⟨e', f1, f2, f3, _⟩ := hget k y hy
          have := hno k hk (List.getElem?_eq_some_iff.1 f2).1
          rw [f1, f3] at this
          simpa using this
      rw [this, e1]
      exact ⟨IsV.on (Stays.of_below hb fun b h1 => hU _ _ b hb h1) m _ _ e4, rfl⟩
end Go.Proofs.Ytdnmgpidfjkiaaa
