/-
  JstextParts, JstextEnds, JstextBack: THE WALKS.
-/
import Derived.Test.YtbcbbeenkndgcaaDoorQuote
import Derived.Test.YtbcbbeenkndgcaaDoorJsDec
import Derived.Test.YtbcbbeenkndgcaaDoorRefValid
import Derived.Test.YtbcbbeenkndgcaaDoorLaidU8
namespace Go.Proofs.YtbcbbeenkndgcaaDoor
open Go.RowKit
set_option linter.unusedVariables false
set_option linter.unusedSimpArgs false

theorem u8keepJ {w w' : World} (h : Lib.Utf8Tabs 3 4 w) (hb : Below w.heap.size w w') : Lib.Utf8Tabs 3 4 w' := Utf8Tabs_below h hb
theorem num09 (n : Int) (w : World) : Calls Tryd.prog 49 #[.int .i64 n] w fun e w' => e = .returned (.int .i64 n) ∧ w = w' := by
  go_enter Tryd.func49, Tryd.ntmps49
  go_wp2_with fail
  go_ret
  exact ⟨rfl, rfl⟩
theorem esc_cut (q : List UInt8) : (⟨(34 :: (q ++ [34])).toArray⟩ : ByteArray).extract 1 (q.length + 1) = ⟨q.toArray⟩ := by
  rw [Lib.extract_mk]
  simp
set_option maxHeartbeats 1000000 in
theorem jsEscape_any (l : List UInt8) (w : World) (hz : l.length ≤ 1000000000) (hT : Lib.Utf8Tabs 3 4 w) :
    Calls Tryd.prog 47 #[.string ⟨l.toArray⟩] w fun e w' => e = .returned (.string ⟨(escR l).toArray⟩) ∧ Below w.heap.size w w' := by
  have hl := escR_len l
  have cQ := hide (quote_any l w hz hT)
  generalize escR l = q at cQ hl ⊢
  have hx := esc_cut q
  have hqi : (q.length : Int) ≤ 12000000000 := by omega
  have hsz : (34 :: (q ++ [34])).length = q.length + 2 := by simp
  have hsi : ((34 :: (q ++ [34])).length : Int) = (q.length : Int) + 2 := by omega
  generalize (34 :: (q ++ [34])) = r at cQ hx hsz hsi
  go_enter Tryd.func47, Tryd.ntmps47
  go_wp2_with fail
  refine (cQ.out).mono ?_
  rintro e w1 ⟨rfl, hb1⟩
  go_wp2_with fail
  go_ret
  exact ⟨by show Ending.returned (.string (ByteArray.extract ⟨r.toArray⟩ 1 (q.length + 2 - 1))) = _; rw [show q.length + 2 - 1 = q.length + 1 by omega, hx], hb1⟩
set_option maxHeartbeats 1000000 in
set_option maxRecDepth 100000 in
theorem alive09 (w : World) (hT : Lib.Utf8Tabs 3 4 w) : Calls Tryd.prog 46 #[] w fun e w' => e = .returned (.bool true) ∧ Below w.heap.size w w' := by
  have cD := fun w => jsDecode_ok [97, 39] w (by decide)
  rw [show escR [97, 39] = [97, 92, 117, 48, 48, 50, 55] by decide +kernel, show repairR [97, 39] = [97, 39] by decide +kernel] at cD
  have cE := fun w hT => jsEscape_any [39] w (by decide) hT
  rw [show escR [39] = [92, 117, 48, 48, 50, 55] by decide +kernel] at cE
  have cD := hide cD; have cE := hide cE
  go_enter Tryd.func46, Tryd.ntmps46
  go_wp2_with fail
  refine (cD.out _).mono ?_
  rintro e w1 ⟨rfl, hb1⟩
  have hT1 := u8keepJ hT hb1
  go_wp2_with (first | (go_at_call 49; refine (num09 _ _).mono ?_; rintro e w2 ⟨rfl, rfl⟩) | (go_at_call 47; refine (cE.out _ hT1).mono ?_; rintro e w2 ⟨rfl, hb2⟩))
  go_ret
  exact ⟨rfl, below_step hb1 hb2⟩
set_option maxHeartbeats 1000000 in
set_option maxRecDepth 100000 in
theorem jstextBack_walk (a0 : ByteArray) (s0 : a0.size ≤ 1048576) (w : World) (hT : Lib.Utf8Tabs 3 4 w) :
    Calls Tryd.prog 15 #[.string a0] w fun e w' => e = .returned (.bool true) ∧ Below w.heap.size w w' := by
  obtain ⟨s, rfl⟩ : ∃ l : List UInt8, a0 = ⟨l.toArray⟩ := ⟨a0.data.toList, rfl⟩
  rw [mk_size] at s0
  have cE := jsEscape_any s w (by omega) hT
  have cD := fun w => jsDecode_ok s w (by omega)
  have cR := fun w => refRepair_any s w (by omega)
  have hl := escR_len s
  have cS := fun w => jsSafe_any (escR s) w (by omega)
  rw [quiet_loud _ (escR_quiet s)] at cS
  generalize escR s = t at cE cD cS hl
  generalize repairR s = r at cD cR
  have hti : (t.length : Int) ≤ 100000000 := by omega
  have cE := hide cE; have cD := hide cD; have cR := hide cR; have cS := hide cS
  go_enter Tryd.func15, Tryd.ntmps15
  go_wp2_with fail
  refine (cE.out).mono ?_
  rintro e w1 ⟨rfl, hb1⟩
  go_wp2_with fail
  refine (cD.out _).mono ?_
  rintro e w2 ⟨rfl, hb2⟩
  have hB2 := below_step hb1 hb2
  go_wp2_with (first
    | (go_at_call 49; refine (num09 _ _).mono ?_; rintro e w3 ⟨rfl, rfl⟩)
    | (go_at_call 19; refine (cR.out _).mono ?_; rintro e w3 ⟨rfl, hb3⟩; have hB3 := below_step hB2 hb3)
    | (go_at_call 50; refine (cS.out _).mono ?_; rintro e w4 ⟨rfl, hb4⟩; have hB4 := below_step hB3 hb4; have hT4 := u8keepJ hT hB4)
    | (go_at_call 46; refine (alive09 _ hT4).mono ?_; rintro e w5 ⟨rfl, hb5⟩; have hB5 := below_step hB4 hb5))
  go_ret
  exact ⟨rfl, hB5⟩
set_option maxHeartbeats 1000000 in
set_option maxRecDepth 100000 in
theorem jstextParts_walk (a0 : ByteArray) (s0 : a0.size ≤ 1048576) (a1 : ByteArray) (s1 : a1.size ≤ 1048576) (w : World) (hT : Lib.Utf8Tabs 3 4 w) :
    Calls Tryd.prog 13 #[.string a0, .string a1] w fun e w' => e = .returned (.bool true) ∧ Below w.heap.size w w' := by
  obtain ⟨a, rfl⟩ : ∃ l : List UInt8, a0 = ⟨l.toArray⟩ := ⟨a0.data.toList, rfl⟩
  obtain ⟨b, rfl⟩ : ∃ l : List UInt8, a1 = ⟨l.toArray⟩ := ⟨a1.data.toList, rfl⟩
  rw [mk_size] at s0 s1
  have cV := fun w => refValid_any a w (by omega)
  have cA := fun w hT => jsEscape_any a w (by omega) hT
  have cB := fun w hT => jsEscape_any b w (by omega) hT
  have cAB := fun w hT => jsEscape_any (a ++ b) w (by simp; omega) hT
  have happ := escR_app a b
  have hla := escR_len a
  have hlb := escR_len b
  have hab : (⟨a.toArray⟩ : ByteArray) ++ ⟨b.toArray⟩ = ⟨(a ++ b).toArray⟩ := by apply ByteArray.ext; simp
  generalize validR a = v at cV happ
  generalize escR (a ++ b) = xab at cAB happ
  generalize escR a = xa at cA happ hla
  generalize escR b = xb at cB happ hlb
  rw [← hab] at cAB
  have cV := hide cV; have cA := hide cA; have cB := hide cB; have cAB := hide cAB
  have hxx : (⟨xa.toArray⟩ : ByteArray) ++ ⟨xb.toArray⟩ = ⟨(xa ++ xb).toArray⟩ := by apply ByteArray.ext; simp
  cases v
  · clear happ
    go_enter Tryd.func13, Tryd.ntmps13
    go_wp2_with (first
      | (go_at_call 46; refine (alive09 _ hT).mono ?_; rintro e w1 ⟨rfl, hb1⟩)
      | (go_at_call 21; refine (cV.out _).mono ?_; rintro e w2 ⟨rfl, hb2⟩))
    go_ret
    exact ⟨rfl, below_step hb1 hb2⟩
  · have happ := happ rfl
    subst happ
    go_enter Tryd.func13, Tryd.ntmps13
    go_wp2_with fail
    refine (alive09 _ hT).mono ?_
    rintro e w1 ⟨rfl, hb1⟩
    go_wp2_with fail
    refine (cV.out _).mono ?_
    rintro e w2 ⟨rfl, hb2⟩
    have hB2 := below_step hb1 hb2
    have hT2 := u8keepJ hT hB2
    go_wp2_with fail
    refine (cAB.out _ hT2).mono ?_
    rintro e w3 ⟨rfl, hb3⟩
    have hB3 := below_step hB2 hb3
    have hT3 := u8keepJ hT hB3
    go_wp2_with fail
    refine (cA.out _ hT3).mono ?_
    rintro e w4 ⟨rfl, hb4⟩
    have hB4 := below_step hB3 hb4
    have hT4 := u8keepJ hT hB4
    go_wp2_with fail
    refine (cB.out _ hT4).mono ?_
    rintro e w5 ⟨rfl, hb5⟩
    have hB5 := below_step hB4 hb5
    go_wp2_with fail
    go_ret
    exact ⟨rfl, hB5⟩
theorem app_lit (x t : List UInt8) : (⟨x.toArray⟩ : ByteArray) ++ ⟨t.toArray⟩ = ⟨(x ++ t).toArray⟩ := by apply ByteArray.ext; simp
set_option maxHeartbeats 2000000 in
set_option maxRecDepth 100000 in
theorem jstextEnds_walk (a0 : ByteArray) (s0 : a0.size ≤ 1048576) (w : World) (hT : Lib.Utf8Tabs 3 4 w) :
    Calls Tryd.prog 14 #[.string a0] w fun e w' => e = .returned (.bool true) ∧ Below w.heap.size w w' := by
  obtain ⟨s, rfl⟩ : ∃ l : List UInt8, a0 = ⟨l.toArray⟩ := ⟨a0.data.toList, rfl⟩
  rw [mk_size] at s0
  have cE := fun w hT => jsEscape_any s w (by omega) hT
  have cD1 := fun w => jsDecode_bad s [34, 120] (.inr (.inr ⟨34, [120], rfl, .inl rfl⟩)) (by decide) (by decide) w (by omega)
  have cD2 := fun w => jsDecode_bad s [92] (.inr (.inl rfl)) (by decide) (by decide) w (by omega)
  have cD3 := fun w => jsDecode_bad s [10, 120] (.inr (.inr ⟨10, [120], rfl, .inr rfl⟩)) (by decide) (by decide) w (by omega)
  have hl := escR_len s
  generalize escR s = t at cE cD1 cD2 cD3 hl
  have h1 : (⟨t.toArray⟩ : ByteArray) ++ ⟨#[34, 120]⟩ = ⟨(t ++ [34, 120]).toArray⟩ := app_lit t [34, 120]
  have h2 : (⟨t.toArray⟩ : ByteArray) ++ ⟨#[92]⟩ = ⟨(t ++ [92]).toArray⟩ := app_lit t [92]
  have h3 : (⟨t.toArray⟩ : ByteArray) ++ ⟨#[10, 120]⟩ = ⟨(t ++ [10, 120]).toArray⟩ := app_lit t [10, 120]
  obtain ⟨t1, ht1⟩ : ∃ x : ByteArray, (⟨(t ++ [34, 120]).toArray⟩ : ByteArray) = x := ⟨_, rfl⟩
  obtain ⟨t2, ht2⟩ : ∃ x : ByteArray, (⟨(t ++ [92]).toArray⟩ : ByteArray) = x := ⟨_, rfl⟩
  obtain ⟨t3, ht3⟩ : ∃ x : ByteArray, (⟨(t ++ [10, 120]).toArray⟩ : ByteArray) = x := ⟨_, rfl⟩
  rw [ht1] at h1 cD1
  rw [ht2] at h2 cD2
  rw [ht3] at h3 cD3
  clear ht1 ht2 ht3
  have hti : (t.length : Int) ≤ 100000000 := by omega
  have cE := hide cE; have cD1 := hide cD1; have cD2 := hide cD2; have cD3 := hide cD3
  go_enter Tryd.func14, Tryd.ntmps14
  go_wp2_with fail
  refine (alive09 _ hT).mono ?_
  rintro e w1 ⟨rfl, hb1⟩
  have hT1 := u8keepJ hT hb1
  go_wp2_with fail
  refine (cE.out _ hT1).mono ?_
  rintro e w2 ⟨rfl, hb2⟩
  have hB2 := below_step hb1 hb2
  go_wp2_with fail
  refine (cD1.out _).mono ?_
  rintro e w3 ⟨rfl, hb3⟩
  have hB3 := below_step hB2 hb3
  go_wp2_with fail
  refine (cD2.out _).mono ?_
  rintro e w4 ⟨rfl, hb4⟩
  have hB4 := below_step hB3 hb4
  go_wp2_with fail
  refine (cD3.out _).mono ?_
  rintro e w5 ⟨rfl, hb5⟩
  have hB5 := below_step hB4 hb5
  go_wp2_with (first | (go_at_call 49; refine (num09 _ _).mono ?_; rintro e w6 ⟨rfl, rfl⟩))
  go_ret
  exact ⟨rfl, hB5⟩
end Go.Proofs.YtbcbbeenkndgcaaDoor
