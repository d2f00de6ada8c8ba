/-
  JsscanStrings: an escaped text stays in its string; a quote ends it. THE WALK.
-/
import Derived.Test.YtlandmahjdaphaaDoorAlive15
import Derived.Test.YtlandmahjdaphaaDoorInside
namespace Go.Proofs.YtlandmahjdaphaaDoor
open Go.RowKit
set_option linter.unusedVariables false
set_option linter.unusedSimpArgs false

set_option maxHeartbeats 2000000 in
set_option maxRecDepth 100000 in
theorem jsscanStrings_walk (a0 : ByteArray) (s0 : a0.size ≤ 1048576) (w : World) (ht : Lib.TabIs Tryd.prog w "strings.asciiSpace" .u8 Lib.asciiSpaceTab) :
    Calls Tryd.prog 5 #[.string a0] w fun e w' => e = .returned (.bool true) ∧ Below w.heap.size w w' := by
  obtain ⟨s, rfl⟩ : ∃ l : List UInt8, a0 = ⟨l.toArray⟩ := ⟨a0.data.toList, rfl⟩
  rw [mk_size] at s0
  have cI := fun w => inside_any s w (by omega)
  have hl := escR_len s
  have q1 : (feedB (2, []) (escR s)).1 = 2 := feed_esc 2 (.inl rfl) (charsR s) []
  have q2 : (feedB (3, []) (escR s)).1 = 3 := feed_esc 3 (.inr rfl) (charsR s) []
  have q3 := feed_end 2 34 (.inl ⟨rfl, rfl⟩) s
  have q4 := feed_end 3 39 (.inr ⟨rfl, rfl⟩) s
  generalize escR s = t at cI hl q1 q2 q3 q4
  have f1 := fun w ht => feed_any (2, []) t w (by decide) (by decide) (by omega) ht
  have f2 := fun w ht => feed_any (3, []) t w (by decide) (by decide) (by omega) ht
  have f3 := fun w ht => feed_any (2, []) (t ++ [34]) w (by decide) (by decide) (by simp; omega) ht
  have f4 := fun w ht => feed_any (3, []) (t ++ [39]) w (by decide) (by decide) (by simp; omega) ht
  generalize feedB (2, []) t = p1 at f1 q1
  generalize feedB (3, []) t = p2 at f2 q2
  generalize feedB (2, []) (t ++ [34]) = p3 at f3 q3
  generalize feedB (3, []) (t ++ [39]) = p4 at f4 q4
  obtain ⟨n1, v1⟩ := p1
  obtain ⟨n2, v2⟩ := p2
  obtain ⟨n3, v3⟩ := p3
  obtain ⟨n4, v4⟩ := p4
  simp only at q1 q2 q3 q4
  subst q1; subst q2; subst q3; subst q4
  have h3 : (⟨(t ++ [34]).toArray⟩ : ByteArray) = ⟨t.toArray⟩ ++ ⟨#[34]⟩ := by apply ByteArray.ext; simp
  have h4 : (⟨(t ++ [39]).toArray⟩ : ByteArray) = ⟨t.toArray⟩ ++ ⟨#[39]⟩ := by apply ByteArray.ext; simp
  rw [h3] at f3
  rw [h4] at f4
  have hti : (t.length : Int) ≤ 100000000 := by omega
  have cI := hide cI; have f1 := hide f1; have f2 := hide f2; have f3 := hide f3; have f4 := hide f4
  clear h3 h4 hl
  go_enter Tryd.func5, Tryd.ntmps5
  go_wp2_with fail
  refine (alive15 _ ht).mono ?_
  rintro e w1 ⟨rfl, hb1⟩
  go_wp2_with fail
  refine (cI.out _).mono ?_
  rintro e w2 ⟨rfl, hb2⟩
  have hB2 := below_step hb1 hb2
  go_wp2_with fail
  refine (f1.out _ (spc_keep ht hB2)).mono ?_
  rintro e w3 ⟨rfl, hb3⟩
  have hB3 := below_step hB2 hb3
  go_wp2_with fail
  refine (f2.out _ (spc_keep ht hB3)).mono ?_
  rintro e w4 ⟨rfl, hb4⟩
  have hB4 := below_step hB3 hb4
  go_wp2_with fail
  refine (f3.out _ (spc_keep ht hB4)).mono ?_
  rintro e w5 ⟨rfl, hb5⟩
  have hB5 := below_step hB4 hb5
  go_wp2_with fail
  refine (f4.out _ (spc_keep ht hB5)).mono ?_
  rintro e w6 ⟨rfl, hb6⟩
  have hB6 := below_step hB5 hb6
  go_wp2_with fail
  go_ret
  exact ⟨rfl, hB6⟩
end Go.Proofs.YtlandmahjdaphaaDoor
