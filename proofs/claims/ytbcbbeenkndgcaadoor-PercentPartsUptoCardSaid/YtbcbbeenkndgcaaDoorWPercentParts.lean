/-
  PercentParts: two texts that are valid, encoded one behind the other, are both encoded. THE WALK.
-/
import Derived.Test.YtbcbbeenkndgcaaDoorWPercentBack
import Derived.Test.YtbcbbeenkndgcaaDoorNormSpec
import Derived.Test.YtbcbbeenkndgcaaDoorRefValid
namespace Go.Proofs.YtbcbbeenkndgcaaDoor
open Go.RowKit
set_option linter.unusedVariables false
set_option linter.unusedSimpArgs false

set_option maxHeartbeats 1000000 in
set_option maxRecDepth 100000 in
theorem percentParts_walk (a0 : ByteArray) (s0 : a0.size ≤ 1048576) (a1 : ByteArray) (s1 : a1.size ≤ 1048576) (w : World) (hT : Lib.Utf8Tabs 3 4 w) :
    Calls Tryd.prog 4 #[.string a0, .string a1] w fun e w' => e = .returned (.bool true) ∧ Below w.heap.size w w' := by
  obtain ⟨a, rfl⟩ : ∃ l : List UInt8, a0 = ⟨l.toArray⟩ := ⟨a0.data.toList, rfl⟩
  obtain ⟨b, rfl⟩ : ∃ l : List UInt8, a1 = ⟨l.toArray⟩ := ⟨a1.data.toList, rfl⟩
  rw [mk_size] at s0 s1
  have cV := fun w => refValid_any a w (by omega)
  have cA := fun w hT => encode_any a w (by omega) hT
  have cB := fun w hT => encode_any b w (by omega) hT
  have cAB := fun w hT => encode_any (a ++ b) w (by simp; omega) hT
  have happ := encode_app a b
  have hla := repairR_len a
  have hlb := repairR_len b
  have hpa := pctR_len false (repairR a)
  have hpb := pctR_len false (repairR b)
  have hab : (⟨a.toArray⟩ : ByteArray) ++ ⟨b.toArray⟩ = ⟨(a ++ b).toArray⟩ := by apply ByteArray.ext; simp
  generalize validR a = v at cV happ
  generalize pctR false (repairR (a ++ b)) = xab at cAB happ
  generalize pctR false (repairR a) = xa at cA happ hpa
  generalize pctR false (repairR b) = xb at cB happ hpb
  rw [← hab] at cAB
  have cV := hide cV; have cA := hide cA; have cB := hide cB; have cAB := hide cAB
  have hxx : (⟨xa.toArray⟩ : ByteArray) ++ ⟨xb.toArray⟩ = ⟨(xa ++ xb).toArray⟩ := by apply ByteArray.ext; simp
  cases v
  · clear happ
    go_enter Tryd.func4, Tryd.ntmps4
    go_wp2_with (first
      | (go_at_call 20; refine (alive07 _ hT).mono ?_; rintro e w1 ⟨rfl, hb1⟩)
      | (go_at_call 21; refine (cV.out _).mono ?_; rintro e w2 ⟨rfl, hb2⟩))
    go_ret
    exact ⟨rfl, below_step hb1 hb2⟩
  · have happ := happ rfl
    subst happ
    go_enter Tryd.func4, Tryd.ntmps4
    go_wp2_with fail
    refine (alive07 _ hT).mono ?_
    rintro e w1 ⟨rfl, hb1⟩
    go_wp2_with fail
    refine (cV.out _).mono ?_
    rintro e w2 ⟨rfl, hb2⟩
    have hB2 := below_step hb1 hb2
    have hT2 := u8keep hT hB2
    go_wp2_with fail
    refine (cAB.out _ hT2).mono ?_
    rintro e w3 ⟨rfl, hb3⟩
    have hB3 := below_step hB2 hb3
    have hT3 := u8keep hT hB3
    go_wp2_with fail
    refine (cA.out _ hT3).mono ?_
    rintro e w4 ⟨rfl, hb4⟩
    have hB4 := below_step hB3 hb4
    have hT4 := u8keep hT hB4
    go_wp2_with fail
    refine (cB.out _ hT4).mono ?_
    rintro e w5 ⟨rfl, hb5⟩
    have hB5 := below_step hB4 hb5
    go_wp2_with fail
    go_ret
    exact ⟨rfl, hB5⟩
end Go.Proofs.YtbcbbeenkndgcaaDoor
