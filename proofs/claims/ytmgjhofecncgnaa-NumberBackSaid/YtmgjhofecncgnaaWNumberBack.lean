/-
  NumberBack: a number comes back from its digits; another text of it is none. THE WALK.
-/
import Derived.Test.YtmgjhofecncgnaaLaw03
import Derived.Test.YtmgjhofecncgnaaParse
import Derived.Test.YtmgjhofecncgnaaNumBack
namespace Go.Proofs.Ytmgjhofecncgnaa
open Go.RowKit
set_option linter.unusedVariables false

set_option maxHeartbeats 1000000 in
theorem numberBack_walk (a0 : Int) (lo0 : -9223372036854775808 ≤ a0) (hi0 : a0 ≤ 9223372036854775807) (a1 : ByteArray) (s1 : a1.size ≤ 140737488351232) (w : World) :
    Calls Try.prog 5 #[.int .i64 a0, .string a1] w fun e w' => e = .returned (.bool true) ∧ Below w.heap.size w w' := by
  have hr := pParse_range a1.data.toList
  have hb := pParse_back a1.data.toList
  have cP := fun w => parse_any a1 w (by omega)
  generalize pParse a1.data.toList = q at hr hb cP
  obtain ⟨k, f⟩ := q
  dsimp only at hr hb cP
  have HP := hide cP
  clear cP
  obtain ⟨p, hp⟩ : ∃ p, pInt a0 = p := ⟨_, rfl⟩
  have hlen : p.length ≤ 9223372036854775807 := by
    rw [← hp]; unfold pInt; have := decs_len20 a0.natAbs (by omega)
    split <;> simp <;> omega
  have hpp : pParse (⟨p.toArray⟩ : ByteArray).data.toList = (a0, 0) := by show pParse p = _; rw [← hp]; exact pParse_pInt a0 lo0 hi0
  have cB0 := fun w => parse_any ⟨p.toArray⟩ w (by rw [mk_size]; exact hlen)
  rw [hpp] at cB0
  dsimp only at cB0
  have cB := hide cB0
  have cI := hide (fun w => print_any a0 w lo0 hi0)
  rw [hp] at cI
  clear hpp hp cB0
  by_cases hf : f = 0
  · have hk := hb hf
    subst hf
    have cK := hide (fun w => print_any k w hr.1 hr.2.1)
    rw [hk] at cK
    have HE : ((a1.toList == a1.toList)) = true := by simp
    clear hk hb hr hlen s1
    go_enter Try.func5, Try.ntmps5
    go_wp2_with fail
    refine (alive03 w).mono ?_
    rintro e w1 ⟨rfl, hb1⟩
    go_wp2_with fail
    refine (cI.out _).mono ?_
    rintro e w2 ⟨rfl, hb2⟩
    go_wp2_with fail
    refine (cB.out _).mono ?_
    rintro e w3 ⟨rfl, hb3⟩
    go_wp2_with fail
    refine (HP.out _).mono ?_
    rintro e w4 ⟨rfl, hb4⟩
    go_wp2_with (first | (go_at_call 13; go_in) | (go_at_call 21; refine (cK.out _).mono ?_; rintro e w5 ⟨rfl, hb5⟩))
    go_ret
    exact ⟨rfl, below_step (below_step (below_step (below_step hb1 hb2) hb3) hb4) hb5⟩
  · have hf2 : (f != 0) = true := by simpa using hf
    clear hf hb hr hlen s1
    go_enter Try.func5, Try.ntmps5
    go_wp2_with fail
    refine (alive03 w).mono ?_
    rintro e w1 ⟨rfl, hb1⟩
    go_wp2_with fail
    refine (cI.out _).mono ?_
    rintro e w2 ⟨rfl, hb2⟩
    go_wp2_with fail
    refine (cB.out _).mono ?_
    rintro e w3 ⟨rfl, hb3⟩
    go_wp2_with fail
    refine (HP.out _).mono ?_
    rintro e w4 ⟨rfl, hb4⟩
    go_wp2_with (first | (go_at_call 13; go_in))
    go_ret
    exact ⟨rfl, below_step (below_step (below_step hb1 hb2) hb3) hb4⟩
end Go.Proofs.Ytmgjhofecncgnaa
