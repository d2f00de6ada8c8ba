/-
  JsscanParts: behind two texts, one behind the other. THE WALK.
-/
import Derived.Test.YtlandmahjdaphaaDoorAlive15
namespace Go.Proofs.YtlandmahjdaphaaDoor
open Go.RowKit
set_option linter.unusedVariables false
set_option linter.unusedSimpArgs false

set_option maxHeartbeats 2000000 in
set_option maxRecDepth 100000 in
theorem jsscanParts_walk (a0 : ByteArray) (s0 : a0.size ≤ 140737488351232) (a1 : ByteArray) (s1 : a1.size ≤ 140737488351232) (w : World) (ht : Lib.TabIs Tryd.prog w "strings.asciiSpace" .u8 Lib.asciiSpaceTab) :
    Calls Tryd.prog 3 #[.string a0, .string a1] w fun e w' => e = .returned (.bool true) ∧ Below w.heap.size w w' := by
  obtain ⟨a, rfl⟩ : ∃ l : List UInt8, a0 = ⟨l.toArray⟩ := ⟨a0.data.toList, rfl⟩
  obtain ⟨b, rfl⟩ : ∃ l : List UInt8, a1 = ⟨l.toArray⟩ := ⟨a1.data.toList, rfl⟩
  rw [mk_size] at s0 s1
  obtain ⟨P, hP⟩ : ∃ P, feedB (0, []) a = P := ⟨_, rfl⟩
  obtain ⟨Q, hQ⟩ : ∃ Q, feedB P b = Q := ⟨_, rfl⟩
  have hPl := feedB_le (0, []) a (by simp) (by simp)
  rw [hP] at hPl
  have cA := fun w ht => feed_any (0, []) a w (by simp) (by simp) (by omega) ht
  rw [hP] at cA
  have cB := fun w ht => feed_any P b w hPl.1 hPl.2 (by omega) ht
  rw [hQ] at cB
  have cAB := fun w ht => feed_any (0, []) (a ++ b) w (by simp) (by simp) (by simp; omega) ht
  rw [feedB_app, hP, hQ] at cAB
  have h15 : P.1 = 15 → Q.1 = 15 := fun h => by
    rw [← hQ]
    have := feedB_barred P.2 b
    rw [← h] at this
    exact this.trans h
  have hab : (⟨a.toArray⟩ : ByteArray) ++ ⟨b.toArray⟩ = ⟨(a ++ b).toArray⟩ := by apply ByteArray.ext; simp
  rw [← hab] at cAB
  clear hP hQ hPl hab
  obtain ⟨p, v⟩ := P
  obtain ⟨q, u⟩ := Q
  simp only at h15 cA cB cAB
  have cA := hide cA; have cB := hide cB; have cAB := hide cAB
  by_cases hp : p = 15
  · have hq := h15 hp
    subst hp; subst hq
    clear h15
    go_enter Tryd.func3, Tryd.ntmps3
    go_wp2_with fail
    refine (alive15 _ ht).mono ?_
    rintro e w1 ⟨rfl, hb1⟩
    go_wp2_with fail
    refine (cA.out _ (spc_keep ht hb1)).mono ?_
    rintro e w2 ⟨rfl, hb2⟩
    have hB2 := below_step hb1 hb2
    go_wp2_with fail
    refine (cB.out _ (spc_keep ht hB2)).mono ?_
    rintro e w3 ⟨rfl, hb3⟩
    have hB3 := below_step hB2 hb3
    go_wp2_with fail
    refine (cAB.out _ (spc_keep ht hB3)).mono ?_
    rintro e w4 ⟨rfl, hb4⟩
    have hB4 := below_step hB3 hb4
    go_wp2_with fail
    go_ret
    exact ⟨rfl, hB4⟩
  · have hpn : ((p : Int) != 15) = true := by simp; omega
    clear h15 hp
    go_enter Tryd.func3, Tryd.ntmps3
    go_wp2_with fail
    refine (alive15 _ ht).mono ?_
    rintro e w1 ⟨rfl, hb1⟩
    go_wp2_with fail
    refine (cA.out _ (spc_keep ht hb1)).mono ?_
    rintro e w2 ⟨rfl, hb2⟩
    have hB2 := below_step hb1 hb2
    go_wp2_with fail
    refine (cB.out _ (spc_keep ht hB2)).mono ?_
    rintro e w3 ⟨rfl, hb3⟩
    have hB3 := below_step hB2 hb3
    go_wp2_with fail
    refine (cAB.out _ (spc_keep ht hB3)).mono ?_
    rintro e w4 ⟨rfl, hb4⟩
    have hB4 := below_step hB3 hb4
    go_wp2_with fail
    go_ret
    exact ⟨rfl, hB4⟩
end Go.Proofs.YtlandmahjdaphaaDoor
