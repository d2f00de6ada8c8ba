/-
  JsscanLiterals: jsscan.Literal; muslinlaw15.alive; THE WALK.
-/
import Derived.Test.YtdnmgpidfjkiaaaDoorM4
import Derived.Test.YtdnmgpidfjkiaaaDoorVMass
import Derived.Test.YtdnmgpidfjkiaaaDoorVLit
import Derived.Test.YtdnmgpidfjkiaaaDoorVCheck4
import Derived.Test.YtdnmgpidfjkiaaaDoorM2
import Derived.Test.YtdnmgpidfjkiaaaDoorM9
import Derived.Test.YtdnmgpidfjkiaaaDoorM8
import Derived.Test.YtdnmgpidfjkiaaaDoorAttr
import Derived.Test.YtdnmgpidfjkiaaaDoorLaidL
namespace Go.Proofs.YtdnmgpidfjkiaaaDoor
open Go.RowKit
set_option linter.unusedVariables false
set_option linter.unusedSimpArgs false

theorem any_okL : ∀ (w w' : World) (b : Nat), Below w.heap.size w w' → b < w.heap.size → anyB w b → anyB w' b := fun _ _ _ _ _ _ => trivial
theorem ba_listL (a : ByteArray) : ∃ s : List UInt8, a = ⟨s.toArray⟩ := ⟨a.data.toList, by cases a; simp⟩
/-- The reader at a text that is read whole. -/
theorem read_whole (s : List UInt8) (w : World) (hz : s.length ≤ 1000000000) (h : ∃ v, readR risingK s = .ok v []) :
    Calls Tryd.prog 12 #[.string ⟨s.toArray⟩] w fun e w' => ∃ (k i : Int) (q : ByteArray) (a b : Option Addr) (n c m d : Nat) (r : Int), e = .returned (.tuple #[valV k i q a n c b m d, .int .i64 r, .int .i64 0]) ∧ Below w.heap.size w w' := by
  obtain ⟨v0, h0⟩ := h
  refine (read_any s w hz).mono ?_
  rintro e w' (⟨d, v, hd, rfl, hV, hb⟩ | ⟨y, hd, _⟩)
  · obtain ⟨a, c, b, c2, rfl, _, _⟩ := hV.parts
    exact ⟨_, _, _, _, _, _, _, _, _, _, rfl, hb⟩
  · rw [h0] at hd; cases hd
set_option maxHeartbeats 1000000 in
set_option maxRecDepth 100000 in
theorem jsLit_any (s : List UInt8) (w : World) (hz : s.length ≤ 1000000000) (hl : (litIn s).length ≤ 1000000000) (hok : ∃ v, readR risingK (litIn s) = .ok v []) :
    Calls Tryd.prog 33 #[.string ⟨s.toArray⟩] w fun e w' => e = .returned (.bool true) ∧ Below w.heap.size w w' := by
  have cR := fun w => read_whole (litIn s) w hl hok
  have cT := fun w => octTrim_any ⟨s.toArray⟩ w (by rw [mk_size]; omega)
  obtain ⟨T, hT⟩ : ∃ T, trimL s = T := ⟨_, rfl⟩
  have cT : ∀ w, Calls Tryd.prog 58 #[.string ⟨s.toArray⟩] w fun e w' => e = .returned (.string ⟨T.toArray⟩) ∧ Below w.heap.size w w' := fun w => (cT w).mono fun e w' ⟨t, he, hb, ht⟩ => by
    subst he
    refine ⟨?_, hb⟩
    have : t = ⟨T.toArray⟩ := by
      rw [← hT]
      obtain ⟨⟨t⟩⟩ := t
      simp only at ht
      rw [show trimL s = t from ht.symm]
    rw [this]
  have cP := fun w => hasPrefix_any ⟨T.toArray⟩ ⟨#[45]⟩ w
  have hpre : Lib.hasPrefix (⟨T.toArray⟩ : ByteArray).data.toList (ByteArray.mk #[45]).data.toList = [45].isPrefixOf T := by
    simp [Lib.hasPrefix]
  rw [hpre] at cP
  have hms : (⟨T.toArray⟩ : ByteArray).size = T.length := mk_size T
  unfold litIn at cR hl
  rw [hT] at cR hl
  clear hok hT hpre
  have cT := hide cT
  rcases Bool.eq_false_or_eq_true ([45].isPrefixOf T) with hp | hp
  · rw [hp] at cP
    rw [hp, if_pos rfl] at cR hl
    rw [List.length_cons] at hl
    have happ : (⟨(32 :: T).toArray⟩ : ByteArray) = (⟨#[32]⟩ : ByteArray) ++ ⟨T.toArray⟩ := by apply ByteArray.ext; simp
    rw [happ] at cR
    have cR := hide cR; have cP := hide cP
    clear happ
    go_enter Tryd.func33, Tryd.ntmps33
    go_wp2_with (first | (go_at_call 58; refine (cT.out _).mono ?_; rintro e w1 ⟨rfl, hb1⟩) | (go_at_call 59; refine (cP.out _).mono ?_; rintro e w2 ⟨rfl, rfl⟩) | (go_at_call 12; refine (cR.out _).mono ?_; rintro e w2 ⟨k, i, q, a, b, n, c, m, d, r, rfl, hb2⟩))
    have hB := below_step hb1 hb2
    go_ret
    first | exact ⟨rfl, hB⟩ | exact ⟨rfl, hB.alloc hB.size _⟩
  · rw [hp] at cP
    rw [hp, if_neg (by decide)] at cR hl
    have cR := hide cR; have cP := hide cP
    go_enter Tryd.func33, Tryd.ntmps33
    go_wp2_with (first | (go_at_call 58; refine (cT.out _).mono ?_; rintro e w1 ⟨rfl, hb1⟩) | (go_at_call 59; refine (cP.out _).mono ?_; rintro e w2 ⟨rfl, rfl⟩) | (go_at_call 12; refine (cR.out _).mono ?_; rintro e w2 ⟨k, i, q, a, b, n, c, m, d, r, rfl, hb2⟩))
    have hB := below_step hb1 hb2
    go_ret
    first | exact ⟨rfl, hB⟩ | exact ⟨rfl, hB.alloc hB.size _⟩
theorem feed5 (w : World) (ht : Lib.TabIs Tryd.prog w "strings.asciiSpace" .u8 Lib.asciiSpaceTab) :
    Calls Tryd.prog 32 #[.int .i64 0, .string ⟨#[]⟩, .string ⟨#[120, 32, 61, 32, 34]⟩] w fun e w' => e = .returned (.tuple #[.int .i64 2, .string ⟨#[]⟩]) ∧ Below w.heap.size w w' := by
  have h := feed_any (0, []) [120, 32, 61, 32, 34] w (by decide) (by decide) (by decide) ht
  rw [show feedB (0, []) [120, 32, 61, 32, 34] = (2, []) by decide +kernel] at h
  exact h
theorem read_five : readR risingK [53] = .ok (⟨3, 5, [], [], []⟩ : VN (VT 16)) [] := by rfl
theorem lit_five : litIn [32, 53, 32] = [53] := by decide
theorem jsLit5 (w : World) : Calls Tryd.prog 33 #[.string ⟨#[32, 53, 32]⟩] w fun e w' => e = .returned (.bool true) ∧ Below w.heap.size w w' :=
  jsLit_any [32, 53, 32] w (by decide) (by rw [lit_five]; decide) ⟨_, by rw [lit_five]; exact read_five⟩
set_option maxHeartbeats 1000000 in
theorem alive15 (w : World) (ht : Lib.TabIs Tryd.prog w "strings.asciiSpace" .u8 Lib.asciiSpaceTab) : Calls Tryd.prog 31 #[] w fun e w' => e = .returned (.bool true) ∧ Below w.heap.size w w' := by
  go_enter Tryd.func31, Tryd.ntmps31
  go_wp2_with fail
  refine (feed5 _ ht).mono ?_
  rintro e w1 ⟨rfl, hb1⟩
  go_wp2_with (go_at_call 33; refine (jsLit5 _).mono ?_; rintro e w2 ⟨rfl, hb2⟩)
  go_ret
  exact ⟨rfl, below_step hb1 hb2⟩
theorem spaceW {w W : World} (ht : Lib.TabIs Tryd.prog w "strings.asciiSpace" .u8 Lib.asciiSpaceTab) (hb : Below w.heap.size w W) : Lib.TabIs Tryd.prog W "strings.asciiSpace" .u8 Lib.asciiSpaceTab := tabs_below gSpace ht hb
set_option maxHeartbeats 2000000 in
set_option maxRecDepth 100000 in
theorem jsscanLiterals_walk (v : Value) (a1 : ByteArray) (s1 : a1.size ≤ 1048576) (w : World) (n : Nat) (d : VT n) (hV : IsV anyB w n v d) (hM : massV n d ≤ 1048576) (hN : NumV n d) (hT : Lib.TabIs Tryd.prog w "strings.asciiSpace" .u8 Lib.asciiSpaceTab) :
    Calls Tryd.prog 10 #[v, .string a1] w fun e w' => e = .returned (.bool true) ∧ Below w.heap.size w w' := by
  cases n with
  | zero => exact hV.elim
  | succ m =>
  obtain ⟨word, rfl⟩ := ba_listL a1
  rw [mk_size] at s1
  have hsm := small_of_mass (m + 1) d hM
  have hlen := litR_len (m + 1) d hN
  have cA := hide (fun W (h : Below w.heap.size w W) => alive15 W (spaceW hT h))
  have cC := hide (fun W (h : Below w.heap.size w W) => refCheck_any (m + 1) anyB any_okL _ _ W (IsV.on (stays_any h) (m + 1) _ _ hV) hsm)
  have cL := hide (fun W (h : Below w.heap.size w W) => refLit_any (m + 1) _ _ W (IsV.on (stays_any h) (m + 1) _ _ hV) hsm hN (by omega))
  have hfull := readR_full d
  have hin := litIn_lit d
  have ha0 := lit_around d 0 (.inl rfl) []
  have ha1 := lit_around d 1 (.inr rfl) word
  obtain ⟨C, hC⟩ : ∃ C, checkV (m + 1) 0 d = C := ⟨_, rfl⟩
  obtain ⟨t, ht⟩ : ∃ t, litR (m + 1) d = t := ⟨_, rfl⟩
  rw [hC] at cC hfull
  rw [ht] at cL hlen hfull hin ha0 ha1
  have htl : t.length ≤ 31457280 := by omega
  have hsl : (32 :: (t ++ [32])).length ≤ 31457282 := by simp; omega
  have hcat : (⟨(32 :: (t ++ [32])).toArray⟩ : ByteArray) = (⟨#[32]⟩ : ByteArray) ++ ⟨t.toArray⟩ ++ (⟨#[32]⟩ : ByteArray) := by apply ByteArray.ext; simp
  have cF0 : ∀ W, Below w.heap.size w W → Calls Tryd.prog 32 #[.int .i64 0, .string ⟨#[]⟩, .string ⟨(32 :: (t ++ [32])).toArray⟩] W fun e w' => e = .returned (.tuple #[.int .i64 1, .string ⟨#[]⟩]) ∧ Below W.heap.size W w' := fun W h => by
    have h := feed_any (0, []) (32 :: (t ++ [32])) W (by decide) (by decide) (by omega) (spaceW hT h)
    rw [ha0] at h
    exact h
  have cF1 : ∀ W, Below w.heap.size w W → Calls Tryd.prog 32 #[.int .i64 1, .string ⟨word.toArray⟩, .string ⟨(32 :: (t ++ [32])).toArray⟩] W fun e w' => e = .returned (.tuple #[.int .i64 1, .string ⟨#[]⟩]) ∧ Below W.heap.size W w' := fun W h => by
    have h := feed_any (1, word) (32 :: (t ++ [32])) W (by show 1 ≤ 15; decide) s1 (by omega) (spaceW hT h)
    rw [ha1] at h
    exact h
  have cJ : C = 0 → ∀ W, Calls Tryd.prog 33 #[.string ⟨(32 :: (t ++ [32])).toArray⟩] W fun e w' => e = .returned (.bool true) ∧ Below W.heap.size W w' := fun h0 W =>
    jsLit_any _ W (by omega) (by rw [hin]; omega) (by rw [hin]; exact hfull h0 hN)
  rw [hcat] at cF0 cF1 cJ
  have hms : (⟨t.toArray⟩ : ByteArray).size = t.length := mk_size t
  obtain ⟨k, i, s, l, ks⟩ := d
  obtain ⟨aA, cA2, aK, cK, rfl, _, _⟩ := hV.parts
  clear hV hsm hN hT hlen hM hC ht hfull hin ha0 ha1 hcat hsl
  simp only
  have hB0 := (Below.refl w.heap.size w).alloc (Nat.le_refl _) (.cells #[.int .i64 k, .int .i64 i, .string ⟨s.toArray⟩, .slice aA l.length cA2, .slice aK ks.length cK] 26)
  have hK0 := Blk.new w 26 #[.int .i64 k, .int .i64 i, .string ⟨s.toArray⟩, .slice aA l.length cA2, .slice aK ks.length cK]
  obtain ⟨W0, hW0⟩ : ∃ W0, w.alloc (.cells #[.int .i64 k, .int .i64 i, .string ⟨s.toArray⟩, .slice aA l.length cA2, .slice aK ks.length cK] 26) = W0 := ⟨_, rfl⟩
  rw [hW0] at hB0 hK0
  have HW0 := hide hW0
  have HB0 := hide hB0; have HK0 := hide hK0
  clear hW0 hB0 hK0
  have cF0 := hide cF0; have cF1 := hide cF1; have CJ := hide cJ
  clear cJ
  by_cases hc0 : C = 0
  · subst hc0
    have cJ := hide (CJ.out rfl)
    clear CJ
    go_enter Tryd.func10, Tryd.ntmps10
    go_wp2_with fail
    rw [HW0.out]
    go_wp2_with fail
    refine (cA.out _ HB0.out).mono ?_
    rintro e w1 ⟨rfl, hb1⟩
    have HB1 := hide (below_step HB0.out hb1)
    have hK1 := HK0.out.below hb1 HK0.out.lt
    have r0 := hK1.cell 0; have r1 := hK1.cell 1; have r2 := hK1.cell 2; have r3 := hK1.cell 3; have r4 := hK1.cell 4
    simp at r0 r1 r2 r3 r4
    have HK1 := hide hK1
    clear hK1 hb1
    go_wp2_with (first
      | (go_at_call 18; refine (cC.out _ HB1.out).mono ?_; rintro e w2 ⟨rfl, hb2⟩; have HB2 := hide (below_step HB1.out hb2); have hK2 := HK1.out.below hb2 HK1.out.lt; have r0 := hK2.cell 0; have r1 := hK2.cell 1; have r2 := hK2.cell 2; have r3 := hK2.cell 3; have r4 := hK2.cell 4; simp at r0 r1 r2 r3 r4; clear hK2 hb2)
      | (go_at_call 14; refine (cL.out _ HB2.out).mono ?_; rintro e w3 ⟨rfl, hb3⟩; have HB3 := hide (below_step HB2.out hb3); clear hb3))
    refine (cF0.out _ HB3.out).mono ?_
    rintro e w4 ⟨rfl, hb4⟩
    have HB4 := hide (below_step HB3.out hb4)
    clear hb4
    go_wp2_with fail
    refine (cF1.out _ HB4.out).mono ?_
    rintro e w5 ⟨rfl, hb5⟩
    have HB5 := hide (below_step HB4.out hb5)
    clear hb5
    go_wp2_with (go_at_call 33; refine (cJ.out _).mono ?_; rintro e w6 ⟨rfl, hb6⟩)
    go_ret
    exact ⟨rfl, below_step HB5.out hb6⟩
  · have hcf : (C != 0) = true := by simpa using hc0
    clear CJ
    go_enter Tryd.func10, Tryd.ntmps10
    go_wp2_with fail
    rw [HW0.out]
    go_wp2_with fail
    refine (cA.out _ HB0.out).mono ?_
    rintro e w1 ⟨rfl, hb1⟩
    have HB1 := hide (below_step HB0.out hb1)
    have hK1 := HK0.out.below hb1 HK0.out.lt
    have r0 := hK1.cell 0; have r1 := hK1.cell 1; have r2 := hK1.cell 2; have r3 := hK1.cell 3; have r4 := hK1.cell 4
    simp at r0 r1 r2 r3 r4
    clear hK1 hb1
    go_wp2_with (go_at_call 18; refine (cC.out _ HB1.out).mono ?_; rintro e w2 ⟨rfl, hb2⟩)
    go_ret
    exact ⟨rfl, below_step HB1.out hb2⟩
end Go.Proofs.YtdnmgpidfjkiaaaDoor
