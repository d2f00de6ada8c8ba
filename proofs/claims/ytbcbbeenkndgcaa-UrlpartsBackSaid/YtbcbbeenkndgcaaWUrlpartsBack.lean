/-
  UrlpartsBack: joined, a text's parts are the text; what is not there is empty. THE WALK.
-/
import Derived.Test.YtbcbbeenkndgcaaAlive40
import Derived.Test.YtbcbbeenkndgcaaJoinU
namespace Go.Proofs.Ytbcbbeenkndgcaa
open Go.RowKit
set_option linter.unusedVariables false
set_option linter.unusedSimpArgs false

set_option maxHeartbeats 4000000 in
set_option maxRecDepth 100000 in
theorem urlpartsBack_walk (a0 : ByteArray) (s0 : a0.size ≤ 140737488351232) (w : World) :
    Calls Try.prog 4 #[.string a0] w fun e w' => e = .returned (.bool true) ∧ Below w.heap.size w w' := by
  obtain ⟨l, rfl⟩ : ∃ l : List UInt8, a0 = ⟨l.toArray⟩ := ⟨a0.data.toList, rfl⟩
  rw [mk_size] at s0
  have cS := hide (fun w => split_any l w (by omega))
  have hj := joinB_splitB l
  have he := splitB_empties l
  have hz := splitB_size l
  generalize splitB l = u at cS hj he hz
  obtain ⟨sc, ho, pa, qu, fr, hs, hh, hq, hf⟩ := u
  have cJ := hide (fun w => joinU_any ⟨sc, ho, pa, qu, fr, hs, hh, hq, hf⟩ w (by omega))
  rw [hj] at cJ
  simp only [UrlV.cells] at cS cJ
  obtain ⟨h1, h2, h3, h4⟩ := he
  clear hj hz
  go_enter Try.func4, Try.ntmps4
  go_wp2_with fail
  refine (cS.out _).mono ?_
  rintro e w1 ⟨rfl, hb1⟩
  have hU : Blk (w1.alloc (.cells #[.string ⟨sc.toArray⟩, .string ⟨ho.toArray⟩, .string ⟨pa.toArray⟩, .string ⟨qu.toArray⟩, .string ⟨fr.toArray⟩, .bool hs, .bool hh, .bool hq, .bool hf] 23)) w1.heap.size 23 #[.string ⟨sc.toArray⟩, .string ⟨ho.toArray⟩, .string ⟨pa.toArray⟩, .string ⟨qu.toArray⟩, .string ⟨fr.toArray⟩, .bool hs, .bool hh, .bool hq, .bool hf] := Blk.new _ _ _
  have hz1 := hU.lt
  have hB1 := hb1.alloc hb1.size (.cells #[.string ⟨sc.toArray⟩, .string ⟨ho.toArray⟩, .string ⟨pa.toArray⟩, .string ⟨qu.toArray⟩, .string ⟨fr.toArray⟩, .bool hs, .bool hh, .bool hq, .bool hf] 23)
  have HB := hide hB1
  clear hB1 hb1 hz1 hU
  cases hs <;> cases hh <;> cases hq <;> cases hf
  all_goals
    simp only [forall_const, true_implies, reduceCtorEq, false_implies] at h1 h2 h3 h4
    first | subst h1 | clear h1
    first | subst h2 | clear h2
    first | subst h3 | clear h3
    first | subst h4 | clear h4
    go_wp2_with (first
      | (go_at_call 12; refine (cJ.out _).mono ?_; rintro e w2 ⟨rfl, hb2⟩)
      | (go_at_call 11; refine (alive40 _).mono ?_; rintro e w3 ⟨rfl, hb3⟩))
    go_ret
    exact ⟨rfl, below_step (below_step HB.out hb2) hb3⟩
end Go.Proofs.Ytbcbbeenkndgcaa
