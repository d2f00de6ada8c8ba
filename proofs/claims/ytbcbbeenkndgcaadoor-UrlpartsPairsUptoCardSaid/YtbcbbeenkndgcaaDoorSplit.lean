/-
  urlparts.Split: a text's parts.
-/
import Derived.Test.YtbcbbeenkndgcaaDoorScheme
import Derived.Test.YtbcbbeenkndgcaaDoorQB
import Derived.Deep.RegionWith
import Derived.Laws.ResultCell
import Derived.Outline
namespace Go.Proofs.YtbcbbeenkndgcaaDoor
open Go.RowKit
set_option linter.unusedVariables false
set_option linter.unusedSimpArgs false

theorem twoSlash_eq (l : List UInt8) : twoSlash l = if (l.take 2 == [47, 47]) then some (l.drop 2) else none := by
  match l with
  | [] => rfl
  | [a] =>
    show none = _
    rw [if_neg (by simp)]
  | a :: b :: r =>
    show (if a == 47 && b == 47 then some r else none) = _
    by_cases h : a = 47 <;> by_cases h2 : b = 47 <;> simp [h, h2]
set_option maxHeartbeats 1000000 in
set_option maxRecDepth 100000 in
theorem cutPrefix_any (l : List UInt8) (w : World) (hl : l.length ≤ 4611686018427387903) :
    Calls Tryd.prog 96 #[.string ⟨l.toArray⟩, .string ⟨#[47, 47]⟩] w fun e w' => e = .returned (.tuple #[.string ⟨((twoSlash l).getD l).toArray⟩, .bool (twoSlash l).isSome]) ∧ Below w.heap.size w w' := by
  have hx : ((⟨l.toArray⟩ : ByteArray).extract 0 2).toList = l.take 2 := by rw [Lib.extract_toList]; simp
  by_cases h2 : (l.length : Int) < 2
  · have ht : twoSlash l = none := by
      rw [twoSlash_eq, if_neg]
      intro h
      have h3 : l.take 2 = [47, 47] := by simpa using h
      have := congrArg List.length h3
      rw [List.length_take] at this
      simp at this
      omega
    rw [ht]
    clear ht hx
    go_enter Tryd.func96, Tryd.ntmps96
    go_wp2_with go_in
    go_ret2
    exact ⟨rfl, Below.refl _ _⟩
  · have h2' : 2 ≤ (l.length : Int) := by omega
    rcases Bool.eq_false_or_eq_true (((⟨l.toArray⟩ : ByteArray).extract 0 2).toList == [47, 47]) with he | he
    · have ht : twoSlash l = some (l.drop 2) := by rw [twoSlash_eq, ← hx, if_pos he]
      have hd : (⟨l.toArray⟩ : ByteArray).extract 2 l.length = ⟨(l.drop 2).toArray⟩ := by
        have := Lib.extract_from (⟨l.toArray⟩ : ByteArray) 2
        rw [mk_size] at this
        exact this
      rw [ht]
      rw [show (some (l.drop 2)).getD l = l.drop 2 from rfl, ← hd]
      have HD := hide hd
      clear ht hx h2 hd
      go_enter Tryd.func96, Tryd.ntmps96
      go_wp2_with go_in
      go_ret2
      exact ⟨rfl, Below.refl _ _⟩
    · have ht : twoSlash l = none := by rw [twoSlash_eq, ← hx, if_neg (by rw [he]; exact Bool.false_ne_true)]
      rw [ht]
      clear ht hx h2
      go_enter Tryd.func96, Tryd.ntmps96
      go_wp2_with go_in
      go_ret2
      exact ⟨rfl, Below.refl _ _⟩
set_option maxHeartbeats 1000000 in
set_option maxRecDepth 100000 in
theorem host_any (l : List UInt8) (w : World) (hl : l.length ≤ 4611686018427387903) :
    Calls Tryd.prog 97 #[.string ⟨l.toArray⟩] w fun e w' => e = .returned (.tuple #[.string ⟨(hostB l).1.toArray⟩, .string ⟨(hostB l).2.toArray⟩]) ∧ Below w.heap.size w w' := by
  obtain ⟨s, hs⟩ : ∃ s : ByteArray, (⟨l.toArray⟩ : ByteArray) = s := ⟨_, rfl⟩
  have hz : s.size = l.length := by rw [← hs]; exact mk_size l
  have hd : s.data.toList = l := by rw [← hs]
  have cI := strings_IndexByte s 47 w
  rw [hd] at cI
  rw [show (47 : Int).toNat.toUInt8 = 47 from rfl] at cI
  have hk : hostB l = if (cutB 47 l).2.2 then ((cutB 47 l).1, 47 :: (cutB 47 l).2.1) else (l, []) := rfl
  rcases cutB_idx 47 l with ⟨h1, h2⟩ | ⟨k, h1, h2, h3⟩
  · rw [h1] at cI
    rw [hk, h2]
    rw [show (⟨(if (l, ([] : List UInt8), false).2.2 = true then ((l, ([] : List UInt8), false).1, 47 :: (l, ([] : List UInt8), false).2.1) else (l, [])).1.toArray⟩ : ByteArray) = s from hs, hs]
    have cI := hide cI
    clear hs hz hd h1 h2 hk
    go_enter Tryd.func97, Tryd.ntmps97
    go_wp2_with (go_at_call 62; refine (Hid.out cI).mono ?_; rintro e w' ⟨rfl, rfl⟩)
    go_ret2
    exact ⟨rfl, Below.refl _ _⟩
  · rw [h1] at cI
    have c1 : (0 : Int) ≤ (k : Int) := by omega
    have c2 : (k : Int) ≤ (s.size : Int) := by omega
    have c5 : (s.size : Int) ≤ 4611686018427387903 := by omega
    have e0 : hostB l = (l.take k, l.drop k) := by
      have hb := cutB_back 47 l
      rw [h3] at hb
      rw [hk, h3]
      simp only [if_true] at hb ⊢
      rw [Prod.mk.injEq]
      refine ⟨rfl, ?_⟩
      have : l.take k ++ 47 :: l.drop (k + 1) = l.take k ++ l.drop k := by rw [hb, List.take_append_drop]
      exact List.append_cancel_left this
    have e1 : (⟨(hostB l).1.toArray⟩ : ByteArray) = s.extract 0 k := by rw [Lib.extract_upto, hd, e0]
    have e2 : (⟨(hostB l).2.toArray⟩ : ByteArray) = s.extract k s.size := by rw [Lib.extract_from, hd, e0]
    rw [e1, e2, hs]
    have cI := hide cI
    have H := hide (And.intro hs (And.intro hz (And.intro hd (And.intro h1 (And.intro h3 (And.intro e1 e2))))))
    clear hs hz hd h1 h3 e0 e1 e2 hk
    go_enter Tryd.func97, Tryd.ntmps97
    go_wp2_with (go_at_call 62; refine (Hid.out cI).mono ?_; rintro e w' ⟨rfl, rfl⟩)
    first
      | (go_ret2; exact ⟨rfl, Below.refl _ _⟩)
      | (go_region; all_goals (go_wp2; go_ret2; exact ⟨rfl, (Below.refl _ _).drew⟩))
def UrlV.cells (u : UrlV) : Array Value := #[.string ⟨u.scheme.toArray⟩, .string ⟨u.host.toArray⟩, .string ⟨u.path.toArray⟩, .string ⟨u.query.toArray⟩, .string ⟨u.frag.toArray⟩, .bool u.hs, .bool u.hh, .bool u.hq, .bool u.hf]
theorem Blk.put9 {w : World} {g : Nat} {t : TypeId} {a0 a1 a2 a3 a4 a5 a6 a7 a8 : Value} (h : Blk w g t #[a0, a1, a2, a3, a4, a5, a6, a7, a8]) (v0 v1 v2 v3 v4 v5 v6 v7 v8 : Value) :
    Blk (((((((((w.setCell ⟨g, 0, none⟩ v0).setCell ⟨g, 1, none⟩ v1).setCell ⟨g, 2, none⟩ v2).setCell ⟨g, 3, none⟩ v3).setCell ⟨g, 4, none⟩ v4).setCell ⟨g, 5, none⟩ v5).setCell ⟨g, 6, none⟩ v6).setCell ⟨g, 7, none⟩ v7).setCell ⟨g, 8, none⟩ v8) g t #[v0, v1, v2, v3, v4, v5, v6, v7, v8] :=
  by
  have h9 := ((((((((h.set_ 0 v0).set_ 1 v1).set_ 2 v2).set_ 3 v3).set_ 4 v4).set_ 5 v5).set_ 6 v6).set_ 7 v7).set_ 8 v8
  simpa using h9
theorem below_nine {B g : Nat} {a w : World} {v0 v1 v2 v3 v4 v5 v6 v7 v8 : Value} (h : Below B a w) (hg : B ≤ g) : Below B a (((((((((w.setCell ⟨g, 0, none⟩ v0).setCell ⟨g, 1, none⟩ v1).setCell ⟨g, 2, none⟩ v2).setCell ⟨g, 3, none⟩ v3).setCell ⟨g, 4, none⟩ v4).setCell ⟨g, 5, none⟩ v5).setCell ⟨g, 6, none⟩ v6).setCell ⟨g, 7, none⟩ v7).setCell ⟨g, 8, none⟩ v8) :=
  (((((((((h.setCell (p := ⟨g, 0, none⟩) hg _).setCell (p := ⟨g, 1, none⟩) hg _).setCell (p := ⟨g, 2, none⟩) hg _).setCell (p := ⟨g, 3, none⟩) hg _).setCell (p := ⟨g, 4, none⟩) hg _).setCell (p := ⟨g, 5, none⟩) hg _).setCell (p := ⟨g, 6, none⟩) hg _).setCell (p := ⟨g, 7, none⟩) hg _).setCell (p := ⟨g, 8, none⟩) hg _)
theorem Blk.nine {w : World} {g : Nat} {t : TypeId} {v0 v1 v2 v3 v4 v5 v6 v7 v8 : Value} (h : Blk w g t #[v0, v1, v2, v3, v4, v5, v6, v7, v8]) :
    w.cell? ⟨g, 0, none⟩ = some v0 ∧ w.cell? ⟨g, 1, none⟩ = some v1 ∧ w.cell? ⟨g, 2, none⟩ = some v2 ∧ w.cell? ⟨g, 3, none⟩ = some v3 ∧ w.cell? ⟨g, 4, none⟩ = some v4 ∧ w.cell? ⟨g, 5, none⟩ = some v5 ∧ w.cell? ⟨g, 6, none⟩ = some v6 ∧ w.cell? ⟨g, 7, none⟩ = some v7 ∧ w.cell? ⟨g, 8, none⟩ = some v8 :=
  ⟨h.cell 0, h.cell 1, h.cell 2, h.cell 3, h.cell 4, h.cell 5, h.cell 6, h.cell 7, h.cell 8⟩
set_option maxHeartbeats 4000000 in
set_option maxRecDepth 100000 in
theorem split_any (l : List UInt8) (w : World) (hl : l.length ≤ 4611686018427387903) :
    Calls Tryd.prog 69 #[.string ⟨l.toArray⟩] w fun e w' => e = .returned (.agg (splitB l).cells) ∧ Below w.heap.size w w' := by
  obtain ⟨W0, hW0⟩ : ∃ W0, ((w.alloc (.cells #[.string ⟨#[]⟩, .string ⟨#[]⟩, .string ⟨#[]⟩, .string ⟨#[]⟩, .string ⟨#[]⟩, .bool false, .bool false, .bool false, .bool false] 67)).alloc (.cells #[.string ⟨#[]⟩, .string ⟨#[]⟩, .string ⟨#[]⟩, .string ⟨#[]⟩, .string ⟨#[]⟩, .bool false, .bool false, .bool false, .bool false] 67)) = W0 := ⟨_, rfl⟩
  have hR : Blk W0 w.heap.size 67 #[.string ⟨#[]⟩, .string ⟨#[]⟩, .string ⟨#[]⟩, .string ⟨#[]⟩, .string ⟨#[]⟩, .bool false, .bool false, .bool false, .bool false] := by rw [← hW0]; exact (Blk.new _ _ _).alloc _
  have hU : Blk W0 (w.heap.size + 1) 67 #[.string ⟨#[]⟩, .string ⟨#[]⟩, .string ⟨#[]⟩, .string ⟨#[]⟩, .string ⟨#[]⟩, .bool false, .bool false, .bool false, .bool false] := by
    rw [← hW0]
    have := Blk.new (w.alloc (.cells #[.string ⟨#[]⟩, .string ⟨#[]⟩, .string ⟨#[]⟩, .string ⟨#[]⟩, .string ⟨#[]⟩, .bool false, .bool false, .bool false, .bool false] 67)) 67 #[.string ⟨#[]⟩, .string ⟨#[]⟩, .string ⟨#[]⟩, .string ⟨#[]⟩, .string ⟨#[]⟩, .bool false, .bool false, .bool false, .bool false]
    simpa using this
  have hB : Below w.heap.size w W0 := by rw [← hW0]; exact ((Below.refl _ _).alloc (Nat.le_refl _) _).alloc (by simp) _
  -- the parts
  obtain ⟨r1, e1⟩ : ∃ r, cutB 35 l = r := ⟨_, rfl⟩
  obtain ⟨r2, e2⟩ : ∃ r, cutB 63 r1.1 = r := ⟨_, rfl⟩
  have n1 := cutB_len 35 l; rw [e1] at n1
  have n2 := cutB_len 63 r1.1; rw [e2] at n2
  have n3 := cutB_len 58 r2.1
  have hsp : splitB l = splitScheme r1.2.1 r2.2.1 r1.2.2 r2.2.2 r2.1 := by unfold splitB; rw [e1, e2]
  rw [hsp]
  clear hsp
  have cC1 := hide (fun w => cut_any l 35 w hl)
  have cC2 := hide (fun w => cut_any r1.1 63 w (by omega))
  have cC3 := hide (fun w => cut_any r2.1 58 w (by omega))
  have cS := hide (fun w => scheme_any r2.1 w (by omega))
  rw [e1] at cC1
  rw [e2] at cC2
  clear e1 e2
  go_enter Tryd.func69, Tryd.ntmps69
  go_wp2_with fail
  clear hW0
  refine (cC1.out _).mono ?_
  rintro e w1 ⟨rfl, hb1⟩
  have hz1 := hR.lt; have hz2 := hU.lt
  have hR1 := hR.below hb1 hz1; have hU1 := hU.below hb1 hz2
  have hB := hB.trans (hb1.mono (by omega))
  have c4 := hU1.cell 4; have f4 := hU1.frozen 4; have c8 := hU1.cell 8; have f8 := hU1.frozen 8
  simp at c4 c8
  clear hb1 hR hU hz1 hz2
  go_wp2_with fail
  refine (cC2.out _).mono ?_
  rintro e w2 ⟨rfl, hb2⟩
  have hR1' := ((hR1.far (p := ⟨w.heap.size + 1, 4, none⟩) (by simp) (.string ⟨r1.2.1.toArray⟩)).far (p := ⟨w.heap.size + 1, 8, none⟩) (by simp) (.bool r1.2.2))
  have hU1' := (hU1.set_ 4 (.string ⟨r1.2.1.toArray⟩)).set_ 8 (.bool r1.2.2)
  have hz1 := hR1'.lt; have hz2 := hU1'.lt
  have hR2 := hR1'.below hb2 hz1; have hU2 := hU1'.below hb2 hz2
  have hB := ((hB.setCell (p := ⟨w.heap.size + 1, 4, none⟩) (by simp) (.string ⟨r1.2.1.toArray⟩)).setCell (p := ⟨w.heap.size + 1, 8, none⟩) (by simp) (.bool r1.2.2)).trans (hb2.mono (by omega))
  clear hb2 hR1 hU1 hR1' hU1' hz1 hz2 c4 f4 c8 f8
  have c3 := hU2.cell 3; have f3 := hU2.frozen 3; have c7 := hU2.cell 7; have f7 := hU2.frozen 7
  simp at c3 c7
  go_wp2_with fail
  have hR2' := ((hR2.far (p := ⟨w.heap.size + 1, 3, none⟩) (by simp) (.string ⟨r2.2.1.toArray⟩)).far (p := ⟨w.heap.size + 1, 7, none⟩) (by simp) (.bool r2.2.2))
  have hU2' := (hU2.set_ 3 (.string ⟨r2.2.1.toArray⟩)).set_ 7 (.bool r2.2.2)
  have hz1 := hR2'.lt; have hz2 := hU2'.lt
  have hB2 := (hB.setCell (p := ⟨w.heap.size + 1, 3, none⟩) (by simp) (.string ⟨r2.2.1.toArray⟩)).setCell (p := ⟨w.heap.size + 1, 7, none⟩) (by simp) (.bool r2.2.2)
  clear hR2 hU2 hB c3 f3 c7 f7
  rcases Bool.eq_false_or_eq_true (schemeB r2.1).2 with hs | hs
  · have hfin : splitScheme r1.2.1 r2.2.1 r1.2.2 r2.2.2 r2.1 = splitPath r1.2.1 r2.2.1 r1.2.2 r2.2.2 (cutB 58 r2.1).1 (cutB 58 r2.1).2.2 (cutB 58 r2.1).2.1 := by unfold splitScheme; rw [if_pos hs]
    rw [hs] at cS
    have HF := hide hfin
    clear hfin hs
    refine (cS.out _).mono ?_
    rintro e w3 ⟨rfl, hb3⟩
    have hR3 := hR2'.below hb3 hz1; have hU3 := hU2'.below hb3 hz2
    have hB3 := hB2.trans (hb3.mono (by omega))
    clear hb3 hR2' hU2' hz1 hz2 hB2
    go_wp2_with fail
    have hz1 := hR3.lt; have hz2 := hU3.lt
    refine (cC3.out _).mono ?_
    rintro e w4 ⟨rfl, hb4⟩
    have hR4' := hR3.below hb4 hz1; have hU4' := hU3.below hb4 hz2
    have hB4' := hB3.trans (hb4.mono (by omega))
    clear hb4 hR3 hU3 hz1 hz2 hB3
    have c0 := hU4'.cell 0; have f0 := hU4'.frozen 0; have c5 := hU4'.cell 5; have f5 := hU4'.frozen 5
    simp at c0 c5
    go_wp2_with fail
    have hR4 := (hR4'.far (p := ⟨w.heap.size + 1, 0, none⟩) (by simp) (.string ⟨(cutB 58 r2.1).1.toArray⟩)).far (p := ⟨w.heap.size + 1, 5, none⟩) (by simp) (.bool (cutB 58 r2.1).2.2)
    have hU4 := (hU4'.set_ 0 (.string ⟨(cutB 58 r2.1).1.toArray⟩)).set_ 5 (.bool (cutB 58 r2.1).2.2)
    have hB4 := (hB4'.setCell (p := ⟨w.heap.size + 1, 0, none⟩) (by simp) (.string ⟨(cutB 58 r2.1).1.toArray⟩)).setCell (p := ⟨w.heap.size + 1, 5, none⟩) (by simp) (.bool (cutB 58 r2.1).2.2)
    clear hR4' hU4' hB4' c0 f0 c5 f5
    have cP := hide (fun w => cutPrefix_any ((cutB 58 r2.1).2.1) w (by omega))
    cases ht : twoSlash ((cutB 58 r2.1).2.1) with
    | none =>
      rw [ht] at cP
      have hfin2 : splitPath r1.2.1 r2.2.1 r1.2.2 r2.2.2 (cutB 58 r2.1).1 (cutB 58 r2.1).2.2 ((cutB 58 r2.1).2.1) = ⟨(cutB 58 r2.1).1, [], (cutB 58 r2.1).2.1, r2.2.1, r1.2.1, (cutB 58 r2.1).2.2, false, r2.2.2, r1.2.2⟩ := by unfold splitPath; rw [ht]
      have H2 := hide hfin2
      clear hfin2 ht
      have hz1 := (hR4).lt; have hz2 := (hU4).lt
      refine (cP.out _).mono ?_
      rintro e w5 ⟨rfl, hb5⟩
      have hR5 := (hR4).below hb5 hz1; have hU5 := (hU4).below hb5 hz2
      have hB5 := (hB4).trans (hb5.mono (by omega))
      clear hR4 hU4 hB4 hz1 hz2 hb5
      have c2 := hU5.cell 2; have f2 := hU5.frozen 2
      simp at c2
      have hU6 := hU5.set_ 2 (.string ⟨((cutB 58 r2.1).2.1).toArray⟩)
      have hR6 := hR5.far (p := ⟨w.heap.size + 1, 2, none⟩) (by simp) (.string ⟨((cutB 58 r2.1).2.1).toArray⟩)
      have hB6 := hB5.setCell (p := ⟨w.heap.size + 1, 2, none⟩) (by simp) (.string ⟨((cutB 58 r2.1).2.1).toArray⟩)
      obtain ⟨W6, hW6⟩ : ∃ W, w5.setCell ⟨w.heap.size + 1, 2, none⟩ (.string ⟨((cutB 58 r2.1).2.1).toArray⟩) = W := ⟨_, rfl⟩
      rw [hW6] at hU6 hR6 hB6
      have hU7 : Blk W6 (w.heap.size + 1) 67 #[.string ⟨(cutB 58 r2.1).1.toArray⟩, .string ⟨#[]⟩, .string ⟨((cutB 58 r2.1).2.1).toArray⟩, .string ⟨r2.2.1.toArray⟩, .string ⟨r1.2.1.toArray⟩, .bool (cutB 58 r2.1).2.2, .bool false, .bool r2.2.2, .bool r1.2.2] := by simpa using hU6
      obtain ⟨d0, d1, d2, d3, d4, d5, d6, d7, d8⟩ := hU7.nine
      obtain ⟨g0, g1, g2, g3, g4, g5, g6, g7, g8⟩ := hR6.nine
      have k0 := hR6.frozen 0; have k1 := hR6.frozen 1; have k2 := hR6.frozen 2; have k3 := hR6.frozen 3; have k4 := hR6.frozen 4; have k5 := hR6.frozen 5; have k6 := hR6.frozen 6; have k7 := hR6.frozen 7; have k8 := hR6.frozen 8
      clear hU5 hR5 hU6 hB5
      go_wp2_with fail
      (try simp only [Exit.inBlock, Exit.then])
      exact bodyPost_ret (v := .agg #[.string ⟨(cutB 58 r2.1).1.toArray⟩, .string ⟨#[]⟩, .string ⟨((cutB 58 r2.1).2.1).toArray⟩, .string ⟨r2.2.1.toArray⟩, .string ⟨r1.2.1.toArray⟩, .bool (cutB 58 r2.1).2.2, .bool false, .bool r2.2.2, .bool r1.2.2]) (results_cell_row rfl _ _ w.heap.size 67 _ (0, 0) _ rfl (hR6.put9 _ _ _ _ _ _ _ _ _) Tryd.underlying67 rfl (by kernel_rfl)) rfl ⟨by rw [HF.out, H2.out]; rfl, below_nine hB6 (Nat.le_refl _)⟩
    | some t =>
      rw [ht] at cP
      have hfin2 : splitPath r1.2.1 r2.2.1 r1.2.2 r2.2.2 (cutB 58 r2.1).1 (cutB 58 r2.1).2.2 ((cutB 58 r2.1).2.1) = ⟨(cutB 58 r2.1).1, (hostB t).1, (hostB t).2, r2.2.1, r1.2.1, (cutB 58 r2.1).2.2, true, r2.2.2, r1.2.2⟩ := by unfold splitPath; rw [ht]
      have htl : t.length ≤ 4611686018427387903 := by have := congrArg List.length (twoSlash_some ht); simp at this; omega
      have H2 := hide hfin2
      have cH := hide (fun w => host_any t w htl)
      clear hfin2 ht htl
      have hz1 := (hR4).lt; have hz2 := (hU4).lt
      refine (cP.out _).mono ?_
      rintro e w5 ⟨rfl, hb5⟩
      have hR5 := (hR4).below hb5 hz1; have hU5 := (hU4).below hb5 hz2
      have hB5 := (hB4).trans (hb5.mono (by omega))
      clear hR4 hU4 hB4 hz1 hz2 hb5
      have c6 := hU5.cell 6; have f6 := hU5.frozen 6
      simp at c6
      have hU6 := hU5.set_ 6 (.bool true)
      have hR6 := hR5.far (p := ⟨w.heap.size + 1, 6, none⟩) (by simp) (.bool true)
      have hB6 := hB5.setCell (p := ⟨w.heap.size + 1, 6, none⟩) (by simp) (.bool true)
      have hz1 := hR6.lt; have hz2 := hU6.lt
      go_wp2_with fail
      refine (cH.out _).mono ?_
      rintro e w6 ⟨rfl, hb6⟩
      have hR7 := hR6.below hb6 hz1; have hU7 := hU6.below hb6 hz2
      have hB7 := hB6.trans (hb6.mono (by omega))
      clear hb6 hR5 hU5 hB5 hR6 hU6 hB6 hz1 hz2 c6 f6
      have c1 := hU7.cell 1; have f1 := hU7.frozen 1; have c2 := hU7.cell 2; have f2 := hU7.frozen 2
      simp at c1 c2
      have hU8 := (hU7.set_ 1 (.string ⟨(hostB t).1.toArray⟩)).set_ 2 (.string ⟨(hostB t).2.toArray⟩)
      have hR8 := (hR7.far (p := ⟨w.heap.size + 1, 1, none⟩) (by simp) (.string ⟨(hostB t).1.toArray⟩)).far (p := ⟨w.heap.size + 1, 2, none⟩) (by simp) (.string ⟨(hostB t).2.toArray⟩)
      have hB8 := (hB7.setCell (p := ⟨w.heap.size + 1, 1, none⟩) (by simp) (.string ⟨(hostB t).1.toArray⟩)).setCell (p := ⟨w.heap.size + 1, 2, none⟩) (by simp) (.string ⟨(hostB t).2.toArray⟩)
      obtain ⟨W8, hW8⟩ : ∃ W, (w6.setCell ⟨w.heap.size + 1, 1, none⟩ (.string ⟨(hostB t).1.toArray⟩)).setCell ⟨w.heap.size + 1, 2, none⟩ (.string ⟨(hostB t).2.toArray⟩) = W := ⟨_, rfl⟩
      rw [hW8] at hU8 hR8 hB8
      have hU9 : Blk W8 (w.heap.size + 1) 67 #[.string ⟨(cutB 58 r2.1).1.toArray⟩, .string ⟨(hostB t).1.toArray⟩, .string ⟨(hostB t).2.toArray⟩, .string ⟨r2.2.1.toArray⟩, .string ⟨r1.2.1.toArray⟩, .bool (cutB 58 r2.1).2.2, .bool true, .bool r2.2.2, .bool r1.2.2] := by simpa using hU8
      obtain ⟨d0, d1, d2, d3, d4, d5, d6, d7, d8⟩ := hU9.nine
      obtain ⟨g0, g1, g2, g3, g4, g5, g6, g7, g8⟩ := hR8.nine
      have k0 := hR8.frozen 0; have k1 := hR8.frozen 1; have k2 := hR8.frozen 2; have k3 := hR8.frozen 3; have k4 := hR8.frozen 4; have k5 := hR8.frozen 5; have k6 := hR8.frozen 6; have k7 := hR8.frozen 7; have k8 := hR8.frozen 8
      clear hU7 hR7 hU8 hB7
      go_wp2_with fail
      (try simp only [Exit.inBlock, Exit.then])
      exact bodyPost_ret (v := .agg #[.string ⟨(cutB 58 r2.1).1.toArray⟩, .string ⟨(hostB t).1.toArray⟩, .string ⟨(hostB t).2.toArray⟩, .string ⟨r2.2.1.toArray⟩, .string ⟨r1.2.1.toArray⟩, .bool (cutB 58 r2.1).2.2, .bool true, .bool r2.2.2, .bool r1.2.2]) (results_cell_row rfl _ _ w.heap.size 67 _ (0, 0) _ rfl (hR8.put9 _ _ _ _ _ _ _ _ _) Tryd.underlying67 rfl (by kernel_rfl)) rfl ⟨by rw [HF.out, H2.out]; rfl, below_nine hB8 (Nat.le_refl _)⟩
  · have hfin : splitScheme r1.2.1 r2.2.1 r1.2.2 r2.2.2 r2.1 = splitPath r1.2.1 r2.2.1 r1.2.2 r2.2.2 [] false r2.1 := by unfold splitScheme; rw [if_neg (by rw [hs]; exact Bool.false_ne_true)]
    rw [hs] at cS
    have HF := hide hfin
    clear hfin hs
    refine (cS.out _).mono ?_
    rintro e w3 ⟨rfl, hb3⟩
    have hR4 := hR2'.below hb3 hz1; have hU4 := hU2'.below hb3 hz2
    have hB4 := hB2.trans (hb3.mono (by omega))
    clear hb3 hR2' hU2' hz1 hz2 hB2
    go_wp2_with fail
    have cP := hide (fun w => cutPrefix_any (r2.1) w (by omega))
    cases ht : twoSlash (r2.1) with
    | none =>
      rw [ht] at cP
      have hfin2 : splitPath r1.2.1 r2.2.1 r1.2.2 r2.2.2 [] false (r2.1) = ⟨[], [], r2.1, r2.2.1, r1.2.1, false, false, r2.2.2, r1.2.2⟩ := by unfold splitPath; rw [ht]
      have H2 := hide hfin2
      clear hfin2 ht
      have hz1 := (hR4).lt; have hz2 := (hU4).lt
      refine (cP.out _).mono ?_
      rintro e w5 ⟨rfl, hb5⟩
      have hR5 := (hR4).below hb5 hz1; have hU5 := (hU4).below hb5 hz2
      have hB5 := (hB4).trans (hb5.mono (by omega))
      clear hR4 hU4 hB4 hz1 hz2 hb5
      have c2 := hU5.cell 2; have f2 := hU5.frozen 2
      simp at c2
      have hU6 := hU5.set_ 2 (.string ⟨(r2.1).toArray⟩)
      have hR6 := hR5.far (p := ⟨w.heap.size + 1, 2, none⟩) (by simp) (.string ⟨(r2.1).toArray⟩)
      have hB6 := hB5.setCell (p := ⟨w.heap.size + 1, 2, none⟩) (by simp) (.string ⟨(r2.1).toArray⟩)
      obtain ⟨W6, hW6⟩ : ∃ W, w5.setCell ⟨w.heap.size + 1, 2, none⟩ (.string ⟨(r2.1).toArray⟩) = W := ⟨_, rfl⟩
      rw [hW6] at hU6 hR6 hB6
      have hU7 : Blk W6 (w.heap.size + 1) 67 #[.string ⟨#[]⟩, .string ⟨#[]⟩, .string ⟨(r2.1).toArray⟩, .string ⟨r2.2.1.toArray⟩, .string ⟨r1.2.1.toArray⟩, .bool false, .bool false, .bool r2.2.2, .bool r1.2.2] := by simpa using hU6
      obtain ⟨d0, d1, d2, d3, d4, d5, d6, d7, d8⟩ := hU7.nine
      obtain ⟨g0, g1, g2, g3, g4, g5, g6, g7, g8⟩ := hR6.nine
      have k0 := hR6.frozen 0; have k1 := hR6.frozen 1; have k2 := hR6.frozen 2; have k3 := hR6.frozen 3; have k4 := hR6.frozen 4; have k5 := hR6.frozen 5; have k6 := hR6.frozen 6; have k7 := hR6.frozen 7; have k8 := hR6.frozen 8
      clear hU5 hR5 hU6 hB5
      go_wp2_with fail
      (try simp only [Exit.inBlock, Exit.then])
      exact bodyPost_ret (v := .agg #[.string ⟨#[]⟩, .string ⟨#[]⟩, .string ⟨(r2.1).toArray⟩, .string ⟨r2.2.1.toArray⟩, .string ⟨r1.2.1.toArray⟩, .bool false, .bool false, .bool r2.2.2, .bool r1.2.2]) (results_cell_row rfl _ _ w.heap.size 67 _ (0, 0) _ rfl (hR6.put9 _ _ _ _ _ _ _ _ _) Tryd.underlying67 rfl (by kernel_rfl)) rfl ⟨by rw [HF.out, H2.out]; rfl, below_nine hB6 (Nat.le_refl _)⟩
    | some t =>
      rw [ht] at cP
      have hfin2 : splitPath r1.2.1 r2.2.1 r1.2.2 r2.2.2 [] false (r2.1) = ⟨[], (hostB t).1, (hostB t).2, r2.2.1, r1.2.1, false, true, r2.2.2, r1.2.2⟩ := by unfold splitPath; rw [ht]
      have htl : t.length ≤ 4611686018427387903 := by have := congrArg List.length (twoSlash_some ht); simp at this; omega
      have H2 := hide hfin2
      have cH := hide (fun w => host_any t w htl)
      clear hfin2 ht htl
      have hz1 := (hR4).lt; have hz2 := (hU4).lt
      refine (cP.out _).mono ?_
      rintro e w5 ⟨rfl, hb5⟩
      have hR5 := (hR4).below hb5 hz1; have hU5 := (hU4).below hb5 hz2
      have hB5 := (hB4).trans (hb5.mono (by omega))
      clear hR4 hU4 hB4 hz1 hz2 hb5
      have c6 := hU5.cell 6; have f6 := hU5.frozen 6
      simp at c6
      have hU6 := hU5.set_ 6 (.bool true)
      have hR6 := hR5.far (p := ⟨w.heap.size + 1, 6, none⟩) (by simp) (.bool true)
      have hB6 := hB5.setCell (p := ⟨w.heap.size + 1, 6, none⟩) (by simp) (.bool true)
      have hz1 := hR6.lt; have hz2 := hU6.lt
      go_wp2_with fail
      refine (cH.out _).mono ?_
      rintro e w6 ⟨rfl, hb6⟩
      have hR7 := hR6.below hb6 hz1; have hU7 := hU6.below hb6 hz2
      have hB7 := hB6.trans (hb6.mono (by omega))
      clear hb6 hR5 hU5 hB5 hR6 hU6 hB6 hz1 hz2 c6 f6
      have c1 := hU7.cell 1; have f1 := hU7.frozen 1; have c2 := hU7.cell 2; have f2 := hU7.frozen 2
      simp at c1 c2
      have hU8 := (hU7.set_ 1 (.string ⟨(hostB t).1.toArray⟩)).set_ 2 (.string ⟨(hostB t).2.toArray⟩)
      have hR8 := (hR7.far (p := ⟨w.heap.size + 1, 1, none⟩) (by simp) (.string ⟨(hostB t).1.toArray⟩)).far (p := ⟨w.heap.size + 1, 2, none⟩) (by simp) (.string ⟨(hostB t).2.toArray⟩)
      have hB8 := (hB7.setCell (p := ⟨w.heap.size + 1, 1, none⟩) (by simp) (.string ⟨(hostB t).1.toArray⟩)).setCell (p := ⟨w.heap.size + 1, 2, none⟩) (by simp) (.string ⟨(hostB t).2.toArray⟩)
      obtain ⟨W8, hW8⟩ : ∃ W, (w6.setCell ⟨w.heap.size + 1, 1, none⟩ (.string ⟨(hostB t).1.toArray⟩)).setCell ⟨w.heap.size + 1, 2, none⟩ (.string ⟨(hostB t).2.toArray⟩) = W := ⟨_, rfl⟩
      rw [hW8] at hU8 hR8 hB8
      have hU9 : Blk W8 (w.heap.size + 1) 67 #[.string ⟨#[]⟩, .string ⟨(hostB t).1.toArray⟩, .string ⟨(hostB t).2.toArray⟩, .string ⟨r2.2.1.toArray⟩, .string ⟨r1.2.1.toArray⟩, .bool false, .bool true, .bool r2.2.2, .bool r1.2.2] := by simpa using hU8
      obtain ⟨d0, d1, d2, d3, d4, d5, d6, d7, d8⟩ := hU9.nine
      obtain ⟨g0, g1, g2, g3, g4, g5, g6, g7, g8⟩ := hR8.nine
      have k0 := hR8.frozen 0; have k1 := hR8.frozen 1; have k2 := hR8.frozen 2; have k3 := hR8.frozen 3; have k4 := hR8.frozen 4; have k5 := hR8.frozen 5; have k6 := hR8.frozen 6; have k7 := hR8.frozen 7; have k8 := hR8.frozen 8
      clear hU7 hR7 hU8 hB7
      go_wp2_with fail
      (try simp only [Exit.inBlock, Exit.then])
      exact bodyPost_ret (v := .agg #[.string ⟨#[]⟩, .string ⟨(hostB t).1.toArray⟩, .string ⟨(hostB t).2.toArray⟩, .string ⟨r2.2.1.toArray⟩, .string ⟨r1.2.1.toArray⟩, .bool false, .bool true, .bool r2.2.2, .bool r1.2.2]) (results_cell_row rfl _ _ w.heap.size 67 _ (0, 0) _ rfl (hR8.put9 _ _ _ _ _ _ _ _ _) Tryd.underlying67 rfl (by kernel_rfl)) rfl ⟨by rw [HF.out, H2.out]; rfl, below_nine hB8 (Nat.le_refl _)⟩
end Go.Proofs.YtbcbbeenkndgcaaDoor
