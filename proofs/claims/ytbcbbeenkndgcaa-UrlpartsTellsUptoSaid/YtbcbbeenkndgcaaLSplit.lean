/-
  muslinlaw40.split: a URL's parts, by the page.
-/
import Derived.Test.YtbcbbeenkndgcaaTellsA
import Derived.Test.YtbcbbeenkndgcaaSplit
import Derived.Test.YtbcbbeenkndgcaaRefFilter
namespace Go.Proofs.Ytbcbbeenkndgcaa
open Go.RowKit
set_option linter.unusedVariables false
set_option linter.unusedSimpArgs false

theorem lawCutN_any (l : List UInt8) (c : UInt8) (hz : l.length ≤ 1000000000) (w : World) :
    Calls Try.prog 14 #[.string ⟨l.toArray⟩, .int .u8 (c.toNat : Int)] w fun e w' => e = .returned (.tuple #[.string ⟨(cutB c l).1.toArray⟩, .string ⟨(cutB c l).2.1.toArray⟩, .bool (cutB c l).2.2]) ∧ Below w.heap.size w w' := lawCut_any l c w hz
set_option maxHeartbeats 1000000 in
set_option maxRecDepth 100000 in
theorem refBegins2_any (l : List UInt8) (w : World) (hl : l.length ≤ 1000000000) :
    Calls Try.prog 28 #[.string ⟨#[47, 47]⟩, .string ⟨l.toArray⟩] w fun e w' => e = .returned (.bool (twoSlash l).isSome) ∧ Below w.heap.size w w' := by
  have hx : ((⟨l.toArray⟩ : ByteArray).extract 0 2).toList = l.take 2 := by rw [Lib.extract_toList]; simp
  by_cases h2 : (l.length : Int) < 2
  · have ht : twoSlash l = none := by
      rw [twoSlash_eq, if_neg]
      intro h
      have h3 : l.take 2 = [47, 47] := by simpa using h
      have := congrArg List.length h3
      rw [List.length_take] at this
      simp at this
      omega
    rw [ht]
    have h2d : decide ((2 : Int) ≤ (l.length : Int)) = false := by simp; omega
    clear ht hx
    go_enter Try.func28, Try.ntmps28
    go_wp2_with fail
    go_ret
    exact ⟨rfl, Below.refl _ _⟩
  · have h2' : 2 ≤ (l.length : Int) := by omega
    rcases Bool.eq_false_or_eq_true (((⟨l.toArray⟩ : ByteArray).extract 0 2).toList == [47, 47]) with he | he
    · have ht : twoSlash l = some (l.drop 2) := by rw [twoSlash_eq, ← hx, if_pos he]
      rw [ht]
      clear ht hx h2
      go_enter Try.func28, Try.ntmps28
      go_wp2_with fail
      go_ret
      exact ⟨rfl, Below.refl _ _⟩
    · have ht : twoSlash l = none := by rw [twoSlash_eq, ← hx, if_neg (by rw [he]; exact Bool.false_ne_true)]
      rw [ht]
      clear ht hx h2
      go_enter Try.func28, Try.ntmps28
      go_wp2_with fail
      go_ret
      exact ⟨rfl, Below.refl _ _⟩
theorem host_stop (t : List UInt8) (k : Nat) (h : 47 ∉ t.take k) (hs : k = t.length ∨ ∃ h : k < t.length, t[k] = 47) : hostB t = (t.take k, t.drop k) := by
  unfold hostB
  rcases hs with hs | ⟨h1, h2⟩
  · rw [hs, List.take_length] at h
    rcases Bool.eq_false_or_eq_true (cutB 47 t).2.2 with hc | hc
    · have := cutB_back 47 t
      rw [if_pos hc] at this
      exact absurd (by rw [← this]; simp) h
    · rw [if_neg (by rw [hc]; exact Bool.false_ne_true), hs]; simp
  · rw [cutB_found 47 t k h1 h2 h, if_pos rfl, List.drop_eq_getElem_cons h1, h2]
set_option maxHeartbeats 4000000 in
set_option maxRecDepth 100000 in
theorem lsplit_any (l : List UInt8) (w : World) (hl : l.length ≤ 1000000000) :
    Calls Try.prog 16 #[.string ⟨l.toArray⟩] w fun e w' => e = .returned (.agg (splitB l).cells) ∧ Below w.heap.size w w' := by
  obtain ⟨W0, hW0⟩ : ∃ W0, ((w.alloc (.cells #[.string ⟨#[]⟩, .string ⟨#[]⟩, .string ⟨#[]⟩, .string ⟨#[]⟩, .string ⟨#[]⟩, .bool false, .bool false, .bool false, .bool false] 23)).alloc (.cells #[.string ⟨#[]⟩, .string ⟨#[]⟩, .string ⟨#[]⟩, .string ⟨#[]⟩, .string ⟨#[]⟩, .bool false, .bool false, .bool false, .bool false] 23)) = W0 := ⟨_, rfl⟩
  have hR : Blk W0 w.heap.size 23 #[.string ⟨#[]⟩, .string ⟨#[]⟩, .string ⟨#[]⟩, .string ⟨#[]⟩, .string ⟨#[]⟩, .bool false, .bool false, .bool false, .bool false] := by rw [← hW0]; exact (Blk.new _ _ _).alloc _
  have hU : Blk W0 (w.heap.size + 1) 23 #[.string ⟨#[]⟩, .string ⟨#[]⟩, .string ⟨#[]⟩, .string ⟨#[]⟩, .string ⟨#[]⟩, .bool false, .bool false, .bool false, .bool false] := by
    rw [← hW0]
    have := Blk.new (w.alloc (.cells #[.string ⟨#[]⟩, .string ⟨#[]⟩, .string ⟨#[]⟩, .string ⟨#[]⟩, .string ⟨#[]⟩, .bool false, .bool false, .bool false, .bool false] 23)) 23 #[.string ⟨#[]⟩, .string ⟨#[]⟩, .string ⟨#[]⟩, .string ⟨#[]⟩, .string ⟨#[]⟩, .bool false, .bool false, .bool false, .bool false]
    simpa using this
  have hB : Below w.heap.size w W0 := by rw [← hW0]; exact ((Below.refl _ _).alloc (Nat.le_refl _) _).alloc (by simp) _
  -- the parts
  obtain ⟨r1, e1⟩ : ∃ r, cutB 35 l = r := ⟨_, rfl⟩
  obtain ⟨r2, e2⟩ : ∃ r, cutB 63 r1.1 = r := ⟨_, rfl⟩
  have n1 := cutB_len 35 l; rw [e1] at n1
  have n2 := cutB_len 63 r1.1; rw [e2] at n2
  have n3 := cutB_len 58 r2.1
  have hsp : splitB l = splitScheme r1.2.1 r2.2.1 r1.2.2 r2.2.2 r2.1 := by unfold splitB; rw [e1, e2]
  rw [hsp]
  clear hsp
  have cC1 := hide (lawCutN_any l 35 hl)
  have cC2 := hide (lawCutN_any r1.1 63 (by omega))
  have cC3 := hide (lawCutN_any r2.1 58 (by omega))
  have cS := hide (fun w => refScheme_any r2.1 w (by omega))
  rw [e1] at cC1
  rw [e2] at cC2
  clear e1 e2
  go_enter Try.func16, Try.ntmps16
  go_wp2_with fail
  clear hW0
  refine (cC1.out _).mono ?_
  rintro e w1 ⟨rfl, hb1⟩
  have hz1 := hR.lt; have hz2 := hU.lt
  have hR1 := hR.below hb1 hz1; have hU1 := hU.below hb1 hz2
  have hB := hB.trans (hb1.mono (by omega))
  have c4 := hU1.cell 4; have f4 := hU1.frozen 4; have c8 := hU1.cell 8; have f8 := hU1.frozen 8
  simp at c4 c8
  clear hb1 hR hU hz1 hz2
  go_wp2_with fail
  refine (cC2.out _).mono ?_
  rintro e w2 ⟨rfl, hb2⟩
  have hR1' := ((hR1.far (p := ⟨w.heap.size + 1, 4, none⟩) (by simp) (.string ⟨r1.2.1.toArray⟩)).far (p := ⟨w.heap.size + 1, 8, none⟩) (by simp) (.bool r1.2.2))
  have hU1' := (hU1.set_ 4 (.string ⟨r1.2.1.toArray⟩)).set_ 8 (.bool r1.2.2)
  have hz1 := hR1'.lt; have hz2 := hU1'.lt
  have hR2 := hR1'.below hb2 hz1; have hU2 := hU1'.below hb2 hz2
  have hB := ((hB.setCell (p := ⟨w.heap.size + 1, 4, none⟩) (by simp) (.string ⟨r1.2.1.toArray⟩)).setCell (p := ⟨w.heap.size + 1, 8, none⟩) (by simp) (.bool r1.2.2)).trans (hb2.mono (by omega))
  clear hb2 hR1 hU1 hR1' hU1' hz1 hz2 c4 f4 c8 f8
  have c3 := hU2.cell 3; have f3 := hU2.frozen 3; have c7 := hU2.cell 7; have f7 := hU2.frozen 7
  simp at c3 c7
  go_wp2_with fail
  have hR2' := ((hR2.far (p := ⟨w.heap.size + 1, 3, none⟩) (by simp) (.string ⟨r2.2.1.toArray⟩)).far (p := ⟨w.heap.size + 1, 7, none⟩) (by simp) (.bool r2.2.2))
  have hU2' := (hU2.set_ 3 (.string ⟨r2.2.1.toArray⟩)).set_ 7 (.bool r2.2.2)
  have hz1 := hR2'.lt; have hz2 := hU2'.lt
  have hB2 := (hB.setCell (p := ⟨w.heap.size + 1, 3, none⟩) (by simp) (.string ⟨r2.2.1.toArray⟩)).setCell (p := ⟨w.heap.size + 1, 7, none⟩) (by simp) (.bool r2.2.2)
  clear hR2 hU2 hB c3 f3 c7 f7
  rcases Bool.eq_false_or_eq_true (schemeB r2.1).2 with hs | hs
  · have hfin : splitScheme r1.2.1 r2.2.1 r1.2.2 r2.2.2 r2.1 = splitPath r1.2.1 r2.2.1 r1.2.2 r2.2.2 (cutB 58 r2.1).1 (cutB 58 r2.1).2.2 (cutB 58 r2.1).2.1 := by unfold splitScheme; rw [if_pos hs]
    rw [hs] at cS
    have HF := hide hfin
    clear hfin hs
    refine (cS.out _).mono ?_
    rintro e w3 ⟨rfl, hb3⟩
    have hR3 := hR2'.below hb3 hz1; have hU3 := hU2'.below hb3 hz2
    have hB3 := hB2.trans (hb3.mono (by omega))
    clear hb3 hR2' hU2' hz1 hz2 hB2
    go_wp2_with fail
    have hz1 := hR3.lt; have hz2 := hU3.lt
    refine (cC3.out _).mono ?_
    rintro e w4 ⟨rfl, hb4⟩
    have hR4' := hR3.below hb4 hz1; have hU4' := hU3.below hb4 hz2
    have hB4' := hB3.trans (hb4.mono (by omega))
    clear hb4 hR3 hU3 hz1 hz2 hB3
    have c0 := hU4'.cell 0; have f0 := hU4'.frozen 0; have c5 := hU4'.cell 5; have f5 := hU4'.frozen 5
    simp at c0 c5
    go_wp2_with fail
    have hR4 := (hR4'.far (p := ⟨w.heap.size + 1, 0, none⟩) (by simp) (.string ⟨(cutB 58 r2.1).1.toArray⟩)).far (p := ⟨w.heap.size + 1, 5, none⟩) (by simp) (.bool (cutB 58 r2.1).2.2)
    have hU4 := (hU4'.set_ 0 (.string ⟨(cutB 58 r2.1).1.toArray⟩)).set_ 5 (.bool (cutB 58 r2.1).2.2)
    have hB4 := (hB4'.setCell (p := ⟨w.heap.size + 1, 0, none⟩) (by simp) (.string ⟨(cutB 58 r2.1).1.toArray⟩)).setCell (p := ⟨w.heap.size + 1, 5, none⟩) (by simp) (.bool (cutB 58 r2.1).2.2)
    clear hR4' hU4' hB4' c0 f0 c5 f5
    have cP := hide (fun w => refBegins2_any ((cutB 58 r2.1).2.1) w (by omega))
    cases ht : twoSlash ((cutB 58 r2.1).2.1) with
    | none =>
      rw [ht] at cP
      simp only [Option.isSome] at cP
      have hfin2 : splitPath r1.2.1 r2.2.1 r1.2.2 r2.2.2 (cutB 58 r2.1).1 (cutB 58 r2.1).2.2 ((cutB 58 r2.1).2.1) = ⟨(cutB 58 r2.1).1, [], (cutB 58 r2.1).2.1, r2.2.1, r1.2.1, (cutB 58 r2.1).2.2, false, r2.2.2, r1.2.2⟩ := by unfold splitPath; rw [ht]
      have H2 := hide hfin2
      clear hfin2 ht
      have hz1 := (hR4).lt; have hz2 := (hU4).lt
      refine (cP.out _).mono ?_
      rintro e w5 ⟨rfl, hb5⟩
      have hR5 := (hR4).below hb5 hz1; have hU5 := (hU4).below hb5 hz2
      have hB5 := (hB4).trans (hb5.mono (by omega))
      clear hR4 hU4 hB4 hz1 hz2 hb5
      have c2 := hU5.cell 2; have f2 := hU5.frozen 2
      simp at c2
      have hU6 := hU5.set_ 2 (.string ⟨((cutB 58 r2.1).2.1).toArray⟩)
      have hR6 := hR5.far (p := ⟨w.heap.size + 1, 2, none⟩) (by simp) (.string ⟨((cutB 58 r2.1).2.1).toArray⟩)
      have hB6 := hB5.setCell (p := ⟨w.heap.size + 1, 2, none⟩) (by simp) (.string ⟨((cutB 58 r2.1).2.1).toArray⟩)
      obtain ⟨W6, hW6⟩ : ∃ W, w5.setCell ⟨w.heap.size + 1, 2, none⟩ (.string ⟨((cutB 58 r2.1).2.1).toArray⟩) = W := ⟨_, rfl⟩
      rw [hW6] at hU6 hR6 hB6
      have hU7 : Blk W6 (w.heap.size + 1) 23 #[.string ⟨(cutB 58 r2.1).1.toArray⟩, .string ⟨#[]⟩, .string ⟨((cutB 58 r2.1).2.1).toArray⟩, .string ⟨r2.2.1.toArray⟩, .string ⟨r1.2.1.toArray⟩, .bool (cutB 58 r2.1).2.2, .bool false, .bool r2.2.2, .bool r1.2.2] := by simpa using hU6
      obtain ⟨d0, d1, d2, d3, d4, d5, d6, d7, d8⟩ := hU7.nine
      obtain ⟨g0, g1, g2, g3, g4, g5, g6, g7, g8⟩ := hR6.nine
      have k0 := hR6.frozen 0; have k1 := hR6.frozen 1; have k2 := hR6.frozen 2; have k3 := hR6.frozen 3; have k4 := hR6.frozen 4; have k5 := hR6.frozen 5; have k6 := hR6.frozen 6; have k7 := hR6.frozen 7; have k8 := hR6.frozen 8
      clear hU5 hR5 hU6 hB5
      go_wp2_with fail
      (try simp only [Exit.inBlock, Exit.then])
      exact bodyPost_ret (v := .agg #[.string ⟨(cutB 58 r2.1).1.toArray⟩, .string ⟨#[]⟩, .string ⟨((cutB 58 r2.1).2.1).toArray⟩, .string ⟨r2.2.1.toArray⟩, .string ⟨r1.2.1.toArray⟩, .bool (cutB 58 r2.1).2.2, .bool false, .bool r2.2.2, .bool r1.2.2]) (results_cell_row rfl _ _ w.heap.size 23 _ (0, 0) _ rfl (hR6.put9 _ _ _ _ _ _ _ _ _) Try.underlying23 rfl (by kernel_rfl)) rfl ⟨by rw [HF.out, H2.out]; rfl, below_nine hB6 (Nat.le_refl _)⟩
    | some t =>
      rw [ht] at cP
      simp only [Option.isSome] at cP
      have hfin2 : splitPath r1.2.1 r2.2.1 r1.2.2 r2.2.2 (cutB 58 r2.1).1 (cutB 58 r2.1).2.2 ((cutB 58 r2.1).2.1) = ⟨(cutB 58 r2.1).1, (hostB t).1, (hostB t).2, r2.2.1, r1.2.1, (cutB 58 r2.1).2.2, true, r2.2.2, r1.2.2⟩ := by unfold splitPath; rw [ht]
      have HTT := hide ht
      have htl : t.length ≤ 1000000000 := by have := congrArg List.length (twoSlash_some ht); simp at this; omega
      have H2 := hide hfin2
      clear hfin2 ht
      have hz1 := (hR4).lt; have hz2 := (hU4).lt
      refine (cP.out _).mono ?_
      rintro e w5 ⟨rfl, hb5⟩
      have hR5 := (hR4).below hb5 hz1; have hU5 := (hU4).below hb5 hz2
      have hB5 := (hB4).trans (hb5.mono (by omega))
      clear hR4 hU4 hB4 hz1 hz2 hb5
      have c6 := hU5.cell 6; have f6 := hU5.frozen 6
      simp at c6
      have hU6 := hU5.set_ 6 (.bool true)
      have hR6 := hR5.far (p := ⟨w.heap.size + 1, 6, none⟩) (by simp) (.bool true)
      have hB6 := hB5.setCell (p := ⟨w.heap.size + 1, 6, none⟩) (by simp) (.bool true)
      have hz1 := hR6.lt; have hz2 := hU6.lt
      go_wp2_with fail
      have HTS := hide htl
      go_loop [6] (fun i => ∃ k : Nat, i = .int .i64 ((k : Int) + 2) ∧ k ≤ t.length ∧ Hid (47 ∉ t.take k)) (fun i => t.length + 2 - (intOf i).toNat)
      case atStart => exact ⟨0, by simp, Nat.zero_le _, by show 47 ∉ t.take 0; simp⟩
      case round =>
        obtain ⟨k, rfl, hk, hkr⟩ := hrel
        have hll : ((cutB 58 r2.1).2.1).length = t.length + 2 := by rw [twoSlash_some HTT.out]; simp
        have hstop : Hid ((k = t.length ∨ ∃ h : k < t.length, t[k] = 47) → hostB t = (t.take k, t.drop k)) := host_stop t k hkr.out
        have hlli : (((cutB 58 r2.1).2.1).length : Int) = (t.length : Int) + 2 := by omega
        have HL := hide (And.intro hll hlli)
        have hle : (k : Int) + 2 ≤ (((cutB 58 r2.1).2.1).length : Int) := by omega
        have hk0 : (0 : Int) ≤ (k : Int) + 2 := by omega
        have hk2 : ((k : Int) + 2).toNat = k + 2 := by omega
        have hkb : (2 : Int) ≤ (k : Int) + 2 := by omega
        have hrb : (((cutB 58 r2.1).2.1).length : Int) ≤ 1000000000 := by omega
        by_cases hlt : k < t.length
        · have hlz : k + 2 < (⟨((cutB 58 r2.1).2.1).toArray⟩ : ByteArray).size := by rw [mk_size]; omega
          obtain ⟨x, hx⟩ : ∃ x, (⟨((cutB 58 r2.1).2.1).toArray⟩ : ByteArray)[k + 2]'hlz = x := ⟨_, rfl⟩
          have htx : t[k] = x := by
            have e1 : ((cutB 58 r2.1).2.1)[k + 2]? = some x := by rw [List.getElem?_eq_getElem (by omega)]; exact congrArg some hx
            rw [twoSlash_some HTT.out] at e1
            simp only [List.getElem?_cons_succ] at e1
            rw [List.getElem?_eq_getElem hlt] at e1
            exact Option.some.inj e1
          have hlti : (k : Int) + 2 < (((cutB 58 r2.1).2.1).length : Int) := by omega
          clear hll hlli
          rcases Bool.eq_false_or_eq_true ((x.toNat : Int) != 47) with hx47 | hx47
          · have hn := hide (notin_next hlt hkr.out (by rw [htx]; intro e; rw [e] at hx47; simp at hx47))
            clear htx hstop
            go_wp2_with fail
            go_round
            case rel => exact ⟨k + 1, by go_num, by omega, hn⟩
            case measure => simp [intOf]; omega
          · have hh := hstop.out (.inr ⟨hlt, by rw [htx]; apply UInt8.toNat_inj.1; show x.toNat = 47; simp at hx47; omega⟩)
            have hex1 : (⟨((cutB 58 r2.1).2.1).toArray⟩ : ByteArray).extract 2 (k + 2) = ⟨(hostB t).1.toArray⟩ := by
              rw [hh, Lib.extract_mk, twoSlash_some HTT.out]; simp
            have hex2 : (⟨((cutB 58 r2.1).2.1).toArray⟩ : ByteArray).extract (k + 2) ((cutB 58 r2.1).2.1).length = ⟨(hostB t).2.toArray⟩ := by
              have := Lib.extract_from (⟨((cutB 58 r2.1).2.1).toArray⟩ : ByteArray) (k + 2)
              rw [mk_size] at this
              rw [this, hh, twoSlash_some HTT.out]; rfl
            have HH := hide hh
            clear hh hstop
            go_wp2_with fail
            obtain ⟨w6, hw6⟩ : ∃ W, w5.setCell ⟨w.heap.size + 1, 6, none⟩ (.bool true) = W := ⟨_, rfl⟩
            rw [hw6] at hU6 hR6 hB6
            rw [hw6]
            clear hw6 c6 f6 hz1 hz2
            have hU6n : Blk w6 (w.heap.size + 1) 23 #[.string ⟨(cutB 58 r2.1).1.toArray⟩, .string ⟨#[]⟩, .string ⟨#[]⟩, .string ⟨r2.2.1.toArray⟩, .string ⟨r1.2.1.toArray⟩, .bool (cutB 58 r2.1).2.2, .bool true, .bool r2.2.2, .bool r1.2.2] := by simpa using hU6
            obtain ⟨d0, d1, d2, d3, d4, d5, d6, d7, d8⟩ := hU6n.nine
            have f1 := hU6n.frozen 1; have f2 := hU6n.frozen 2
            obtain ⟨g0, g1, g2, g3, g4, g5, g6, g7, g8⟩ := hR6.nine
            have q0 := hR6.frozen 0; have q1 := hR6.frozen 1; have q2 := hR6.frozen 2; have q3 := hR6.frozen 3; have q4 := hR6.frozen 4; have q5 := hR6.frozen 5; have q6 := hR6.frozen 6; have q7 := hR6.frozen 7; have q8 := hR6.frozen 8
            clear hU6 hU6n
            go_region
            all_goals
              go_wp2_with fail
              (try simp only [Exit.inBlock, Exit.then])
              exact bodyPost_ret (v := .agg #[.string ⟨(cutB 58 r2.1).1.toArray⟩, .string ⟨(hostB t).1.toArray⟩, .string ⟨(hostB t).2.toArray⟩, .string ⟨r2.2.1.toArray⟩, .string ⟨r1.2.1.toArray⟩, .bool (cutB 58 r2.1).2.2, .bool true, .bool r2.2.2, .bool r1.2.2]) (results_cell_row rfl _ _ w.heap.size 23 _ (0, 0) _ rfl ((((hR6.far (p := ⟨w.heap.size + 1, 1, none⟩) (by simp) _).far (p := ⟨w.heap.size + 1, 2, none⟩) (by simp) _).put9 _ _ _ _ _ _ _ _ _).drew) Try.underlying23 rfl (by kernel_rfl)) rfl ⟨by rw [HF.out, H2.out]; rfl, (below_nine ((hB6.setCell (p := ⟨w.heap.size + 1, 1, none⟩) (by simp) _).setCell (p := ⟨w.heap.size + 1, 2, none⟩) (by simp) _) (Nat.le_refl _)).drew⟩
        · have hh := hstop.out (.inl (by omega))
          have hlti : decide ((k : Int) + 2 < (((cutB 58 r2.1).2.1).length : Int)) = false := by simp; omega
          clear hll hlli
          have hex1 : (⟨((cutB 58 r2.1).2.1).toArray⟩ : ByteArray).extract 2 (k + 2) = ⟨(hostB t).1.toArray⟩ := by
            rw [hh, Lib.extract_mk, twoSlash_some HTT.out]; simp
          have hex2 : (⟨((cutB 58 r2.1).2.1).toArray⟩ : ByteArray).extract (k + 2) ((cutB 58 r2.1).2.1).length = ⟨(hostB t).2.toArray⟩ := by
            have := Lib.extract_from (⟨((cutB 58 r2.1).2.1).toArray⟩ : ByteArray) (k + 2)
            rw [mk_size] at this
            rw [this, hh, twoSlash_some HTT.out]; rfl
          have HH := hide hh
          clear hh hstop
          go_wp2_with fail
          obtain ⟨w6, hw6⟩ : ∃ W, w5.setCell ⟨w.heap.size + 1, 6, none⟩ (.bool true) = W := ⟨_, rfl⟩
          rw [hw6] at hU6 hR6 hB6
          rw [hw6]
          clear hw6 c6 f6 hz1 hz2
          have hU6n : Blk w6 (w.heap.size + 1) 23 #[.string ⟨(cutB 58 r2.1).1.toArray⟩, .string ⟨#[]⟩, .string ⟨#[]⟩, .string ⟨r2.2.1.toArray⟩, .string ⟨r1.2.1.toArray⟩, .bool (cutB 58 r2.1).2.2, .bool true, .bool r2.2.2, .bool r1.2.2] := by simpa using hU6
          obtain ⟨d0, d1, d2, d3, d4, d5, d6, d7, d8⟩ := hU6n.nine
          have f1 := hU6n.frozen 1; have f2 := hU6n.frozen 2
          obtain ⟨g0, g1, g2, g3, g4, g5, g6, g7, g8⟩ := hR6.nine
          have q0 := hR6.frozen 0; have q1 := hR6.frozen 1; have q2 := hR6.frozen 2; have q3 := hR6.frozen 3; have q4 := hR6.frozen 4; have q5 := hR6.frozen 5; have q6 := hR6.frozen 6; have q7 := hR6.frozen 7; have q8 := hR6.frozen 8
          clear hU6 hU6n
          go_region
          all_goals
            go_wp2_with fail
            (try simp only [Exit.inBlock, Exit.then])
            exact bodyPost_ret (v := .agg #[.string ⟨(cutB 58 r2.1).1.toArray⟩, .string ⟨(hostB t).1.toArray⟩, .string ⟨(hostB t).2.toArray⟩, .string ⟨r2.2.1.toArray⟩, .string ⟨r1.2.1.toArray⟩, .bool (cutB 58 r2.1).2.2, .bool true, .bool r2.2.2, .bool r1.2.2]) (results_cell_row rfl _ _ w.heap.size 23 _ (0, 0) _ rfl ((((hR6.far (p := ⟨w.heap.size + 1, 1, none⟩) (by simp) _).far (p := ⟨w.heap.size + 1, 2, none⟩) (by simp) _).put9 _ _ _ _ _ _ _ _ _).drew) Try.underlying23 rfl (by kernel_rfl)) rfl ⟨by rw [HF.out, H2.out]; rfl, (below_nine ((hB6.setCell (p := ⟨w.heap.size + 1, 1, none⟩) (by simp) _).setCell (p := ⟨w.heap.size + 1, 2, none⟩) (by simp) _) (Nat.le_refl _)).drew⟩
  · have hfin : splitScheme r1.2.1 r2.2.1 r1.2.2 r2.2.2 r2.1 = splitPath r1.2.1 r2.2.1 r1.2.2 r2.2.2 [] false r2.1 := by unfold splitScheme; rw [if_neg (by rw [hs]; exact Bool.false_ne_true)]
    rw [hs] at cS
    have HF := hide hfin
    clear hfin hs
    refine (cS.out _).mono ?_
    rintro e w3 ⟨rfl, hb3⟩
    have hR4 := hR2'.below hb3 hz1; have hU4 := hU2'.below hb3 hz2
    have hB4 := hB2.trans (hb3.mono (by omega))
    clear hb3 hR2' hU2' hz1 hz2 hB2
    go_wp2_with fail
    have cP := hide (fun w => refBegins2_any (r2.1) w (by omega))
    cases ht : twoSlash (r2.1) with
    | none =>
      rw [ht] at cP
      simp only [Option.isSome] at cP
      have hfin2 : splitPath r1.2.1 r2.2.1 r1.2.2 r2.2.2 [] false (r2.1) = ⟨[], [], r2.1, r2.2.1, r1.2.1, false, false, r2.2.2, r1.2.2⟩ := by unfold splitPath; rw [ht]
      have H2 := hide hfin2
      clear hfin2 ht
      have hz1 := (hR4).lt; have hz2 := (hU4).lt
      refine (cP.out _).mono ?_
      rintro e w5 ⟨rfl, hb5⟩
      have hR5 := (hR4).below hb5 hz1; have hU5 := (hU4).below hb5 hz2
      have hB5 := (hB4).trans (hb5.mono (by omega))
      clear hR4 hU4 hB4 hz1 hz2 hb5
      have c2 := hU5.cell 2; have f2 := hU5.frozen 2
      simp at c2
      have hU6 := hU5.set_ 2 (.string ⟨(r2.1).toArray⟩)
      have hR6 := hR5.far (p := ⟨w.heap.size + 1, 2, none⟩) (by simp) (.string ⟨(r2.1).toArray⟩)
      have hB6 := hB5.setCell (p := ⟨w.heap.size + 1, 2, none⟩) (by simp) (.string ⟨(r2.1).toArray⟩)
      obtain ⟨W6, hW6⟩ : ∃ W, w5.setCell ⟨w.heap.size + 1, 2, none⟩ (.string ⟨(r2.1).toArray⟩) = W := ⟨_, rfl⟩
      rw [hW6] at hU6 hR6 hB6
      have hU7 : Blk W6 (w.heap.size + 1) 23 #[.string ⟨#[]⟩, .string ⟨#[]⟩, .string ⟨(r2.1).toArray⟩, .string ⟨r2.2.1.toArray⟩, .string ⟨r1.2.1.toArray⟩, .bool false, .bool false, .bool r2.2.2, .bool r1.2.2] := by simpa using hU6
      obtain ⟨d0, d1, d2, d3, d4, d5, d6, d7, d8⟩ := hU7.nine
      obtain ⟨g0, g1, g2, g3, g4, g5, g6, g7, g8⟩ := hR6.nine
      have k0 := hR6.frozen 0; have k1 := hR6.frozen 1; have k2 := hR6.frozen 2; have k3 := hR6.frozen 3; have k4 := hR6.frozen 4; have k5 := hR6.frozen 5; have k6 := hR6.frozen 6; have k7 := hR6.frozen 7; have k8 := hR6.frozen 8
      clear hU5 hR5 hU6 hB5
      go_wp2_with fail
      (try simp only [Exit.inBlock, Exit.then])
      exact bodyPost_ret (v := .agg #[.string ⟨#[]⟩, .string ⟨#[]⟩, .string ⟨(r2.1).toArray⟩, .string ⟨r2.2.1.toArray⟩, .string ⟨r1.2.1.toArray⟩, .bool false, .bool false, .bool r2.2.2, .bool r1.2.2]) (results_cell_row rfl _ _ w.heap.size 23 _ (0, 0) _ rfl (hR6.put9 _ _ _ _ _ _ _ _ _) Try.underlying23 rfl (by kernel_rfl)) rfl ⟨by rw [HF.out, H2.out]; rfl, below_nine hB6 (Nat.le_refl _)⟩
    | some t =>
      rw [ht] at cP
      simp only [Option.isSome] at cP
      have hfin2 : splitPath r1.2.1 r2.2.1 r1.2.2 r2.2.2 [] false (r2.1) = ⟨[], (hostB t).1, (hostB t).2, r2.2.1, r1.2.1, false, true, r2.2.2, r1.2.2⟩ := by unfold splitPath; rw [ht]
      have HTT := hide ht
      have htl : t.length ≤ 1000000000 := by have := congrArg List.length (twoSlash_some ht); simp at this; omega
      have H2 := hide hfin2
      clear hfin2 ht
      have hz1 := (hR4).lt; have hz2 := (hU4).lt
      refine (cP.out _).mono ?_
      rintro e w5 ⟨rfl, hb5⟩
      have hR5 := (hR4).below hb5 hz1; have hU5 := (hU4).below hb5 hz2
      have hB5 := (hB4).trans (hb5.mono (by omega))
      clear hR4 hU4 hB4 hz1 hz2 hb5
      have c6 := hU5.cell 6; have f6 := hU5.frozen 6
      simp at c6
      have hU6 := hU5.set_ 6 (.bool true)
      have hR6 := hR5.far (p := ⟨w.heap.size + 1, 6, none⟩) (by simp) (.bool true)
      have hB6 := hB5.setCell (p := ⟨w.heap.size + 1, 6, none⟩) (by simp) (.bool true)
      have hz1 := hR6.lt; have hz2 := hU6.lt
      go_wp2_with fail
      have HTS := hide htl
      go_loop [6] (fun i => ∃ k : Nat, i = .int .i64 ((k : Int) + 2) ∧ k ≤ t.length ∧ Hid (47 ∉ t.take k)) (fun i => t.length + 2 - (intOf i).toNat)
      case atStart => exact ⟨0, by simp, Nat.zero_le _, by show 47 ∉ t.take 0; simp⟩
      case round =>
        obtain ⟨k, rfl, hk, hkr⟩ := hrel
        have hll : (r2.1).length = t.length + 2 := by rw [twoSlash_some HTT.out]; simp
        have hstop : Hid ((k = t.length ∨ ∃ h : k < t.length, t[k] = 47) → hostB t = (t.take k, t.drop k)) := host_stop t k hkr.out
        have hlli : ((r2.1).length : Int) = (t.length : Int) + 2 := by omega
        have HL := hide (And.intro hll hlli)
        have hle : (k : Int) + 2 ≤ ((r2.1).length : Int) := by omega
        have hk0 : (0 : Int) ≤ (k : Int) + 2 := by omega
        have hk2 : ((k : Int) + 2).toNat = k + 2 := by omega
        have hkb : (2 : Int) ≤ (k : Int) + 2 := by omega
        have hrb : ((r2.1).length : Int) ≤ 1000000000 := by omega
        by_cases hlt : k < t.length
        · have hlz : k + 2 < (⟨(r2.1).toArray⟩ : ByteArray).size := by rw [mk_size]; omega
          obtain ⟨x, hx⟩ : ∃ x, (⟨(r2.1).toArray⟩ : ByteArray)[k + 2]'hlz = x := ⟨_, rfl⟩
          have htx : t[k] = x := by
            have e1 : (r2.1)[k + 2]? = some x := by rw [List.getElem?_eq_getElem (by omega)]; exact congrArg some hx
            rw [twoSlash_some HTT.out] at e1
            simp only [List.getElem?_cons_succ] at e1
            rw [List.getElem?_eq_getElem hlt] at e1
            exact Option.some.inj e1
          have hlti : (k : Int) + 2 < ((r2.1).length : Int) := by omega
          clear hll hlli
          rcases Bool.eq_false_or_eq_true ((x.toNat : Int) != 47) with hx47 | hx47
          · have hn := hide (notin_next hlt hkr.out (by rw [htx]; intro e; rw [e] at hx47; simp at hx47))
            clear htx hstop
            go_wp2_with fail
            go_round
            case rel => exact ⟨k + 1, by go_num, by omega, hn⟩
            case measure => simp [intOf]; omega
          · have hh := hstop.out (.inr ⟨hlt, by rw [htx]; apply UInt8.toNat_inj.1; show x.toNat = 47; simp at hx47; omega⟩)
            have hex1 : (⟨(r2.1).toArray⟩ : ByteArray).extract 2 (k + 2) = ⟨(hostB t).1.toArray⟩ := by
              rw [hh, Lib.extract_mk, twoSlash_some HTT.out]; simp
            have hex2 : (⟨(r2.1).toArray⟩ : ByteArray).extract (k + 2) (r2.1).length = ⟨(hostB t).2.toArray⟩ := by
              have := Lib.extract_from (⟨(r2.1).toArray⟩ : ByteArray) (k + 2)
              rw [mk_size] at this
              rw [this, hh, twoSlash_some HTT.out]; rfl
            have HH := hide hh
            clear hh hstop
            go_wp2_with fail
            obtain ⟨w6, hw6⟩ : ∃ W, w5.setCell ⟨w.heap.size + 1, 6, none⟩ (.bool true) = W := ⟨_, rfl⟩
            rw [hw6] at hU6 hR6 hB6
            rw [hw6]
            clear hw6 c6 f6 hz1 hz2
            have hU6n : Blk w6 (w.heap.size + 1) 23 #[.string ⟨#[]⟩, .string ⟨#[]⟩, .string ⟨#[]⟩, .string ⟨r2.2.1.toArray⟩, .string ⟨r1.2.1.toArray⟩, .bool false, .bool true, .bool r2.2.2, .bool r1.2.2] := by simpa using hU6
            obtain ⟨d0, d1, d2, d3, d4, d5, d6, d7, d8⟩ := hU6n.nine
            have f1 := hU6n.frozen 1; have f2 := hU6n.frozen 2
            obtain ⟨g0, g1, g2, g3, g4, g5, g6, g7, g8⟩ := hR6.nine
            have q0 := hR6.frozen 0; have q1 := hR6.frozen 1; have q2 := hR6.frozen 2; have q3 := hR6.frozen 3; have q4 := hR6.frozen 4; have q5 := hR6.frozen 5; have q6 := hR6.frozen 6; have q7 := hR6.frozen 7; have q8 := hR6.frozen 8
            clear hU6 hU6n
            go_region
            all_goals
              go_wp2_with fail
              (try simp only [Exit.inBlock, Exit.then])
              exact bodyPost_ret (v := .agg #[.string ⟨#[]⟩, .string ⟨(hostB t).1.toArray⟩, .string ⟨(hostB t).2.toArray⟩, .string ⟨r2.2.1.toArray⟩, .string ⟨r1.2.1.toArray⟩, .bool false, .bool true, .bool r2.2.2, .bool r1.2.2]) (results_cell_row rfl _ _ w.heap.size 23 _ (0, 0) _ rfl ((((hR6.far (p := ⟨w.heap.size + 1, 1, none⟩) (by simp) _).far (p := ⟨w.heap.size + 1, 2, none⟩) (by simp) _).put9 _ _ _ _ _ _ _ _ _).drew) Try.underlying23 rfl (by kernel_rfl)) rfl ⟨by rw [HF.out, H2.out]; rfl, (below_nine ((hB6.setCell (p := ⟨w.heap.size + 1, 1, none⟩) (by simp) _).setCell (p := ⟨w.heap.size + 1, 2, none⟩) (by simp) _) (Nat.le_refl _)).drew⟩
        · have hh := hstop.out (.inl (by omega))
          have hlti : decide ((k : Int) + 2 < ((r2.1).length : Int)) = false := by simp; omega
          clear hll hlli
          have hex1 : (⟨(r2.1).toArray⟩ : ByteArray).extract 2 (k + 2) = ⟨(hostB t).1.toArray⟩ := by
            rw [hh, Lib.extract_mk, twoSlash_some HTT.out]; simp
          have hex2 : (⟨(r2.1).toArray⟩ : ByteArray).extract (k + 2) (r2.1).length = ⟨(hostB t).2.toArray⟩ := by
            have := Lib.extract_from (⟨(r2.1).toArray⟩ : ByteArray) (k + 2)
            rw [mk_size] at this
            rw [this, hh, twoSlash_some HTT.out]; rfl
          have HH := hide hh
          clear hh hstop
          go_wp2_with fail
          obtain ⟨w6, hw6⟩ : ∃ W, w5.setCell ⟨w.heap.size + 1, 6, none⟩ (.bool true) = W := ⟨_, rfl⟩
          rw [hw6] at hU6 hR6 hB6
          rw [hw6]
          clear hw6 c6 f6 hz1 hz2
          have hU6n : Blk w6 (w.heap.size + 1) 23 #[.string ⟨#[]⟩, .string ⟨#[]⟩, .string ⟨#[]⟩, .string ⟨r2.2.1.toArray⟩, .string ⟨r1.2.1.toArray⟩, .bool false, .bool true, .bool r2.2.2, .bool r1.2.2] := by simpa using hU6
          obtain ⟨d0, d1, d2, d3, d4, d5, d6, d7, d8⟩ := hU6n.nine
          have f1 := hU6n.frozen 1; have f2 := hU6n.frozen 2
          obtain ⟨g0, g1, g2, g3, g4, g5, g6, g7, g8⟩ := hR6.nine
          have q0 := hR6.frozen 0; have q1 := hR6.frozen 1; have q2 := hR6.frozen 2; have q3 := hR6.frozen 3; have q4 := hR6.frozen 4; have q5 := hR6.frozen 5; have q6 := hR6.frozen 6; have q7 := hR6.frozen 7; have q8 := hR6.frozen 8
          clear hU6 hU6n
          go_region
          all_goals
            go_wp2_with fail
            (try simp only [Exit.inBlock, Exit.then])
            exact bodyPost_ret (v := .agg #[.string ⟨#[]⟩, .string ⟨(hostB t).1.toArray⟩, .string ⟨(hostB t).2.toArray⟩, .string ⟨r2.2.1.toArray⟩, .string ⟨r1.2.1.toArray⟩, .bool false, .bool true, .bool r2.2.2, .bool r1.2.2]) (results_cell_row rfl _ _ w.heap.size 23 _ (0, 0) _ rfl ((((hR6.far (p := ⟨w.heap.size + 1, 1, none⟩) (by simp) _).far (p := ⟨w.heap.size + 1, 2, none⟩) (by simp) _).put9 _ _ _ _ _ _ _ _ _).drew) Try.underlying23 rfl (by kernel_rfl)) rfl ⟨by rw [HF.out, H2.out]; rfl, (below_nine ((hB6.setCell (p := ⟨w.heap.size + 1, 1, none⟩) (by simp) _).setCell (p := ⟨w.heap.size + 1, 2, none⟩) (by simp) _) (Nat.le_refl _)).drew⟩
end Go.Proofs.Ytbcbbeenkndgcaa
