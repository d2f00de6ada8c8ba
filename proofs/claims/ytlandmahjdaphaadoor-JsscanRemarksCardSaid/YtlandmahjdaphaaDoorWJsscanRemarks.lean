/-
  JsscanRemarks: a remark is gone behind it. THE WALK.
-/
import Derived.Test.YtlandmahjdaphaaDoorAlive15
namespace Go.Proofs.YtlandmahjdaphaaDoor
open Go.RowKit
set_option linter.unusedVariables false
set_option linter.unusedSimpArgs false

def CalmTo (l : List UInt8) (k : Nat) : Prop := (l.take k).all calmB = true
theorem CalmTo.next {l : List UInt8} {k : Nat} {c : UInt8} (h : CalmTo l k) (hc : l[k]? = some c) (hp : calmB c = true) : CalmTo l (k + 1) := by
  unfold CalmTo at h ⊢
  rw [List.take_add_one, hc, List.all_append, h]
  simp [hp]
theorem calm_int (c : UInt8) : calmB c = !(((c.toNat : Int) == 10) || (((c.toNat : Int) == 13) || ((c.toNat : Int) == 42))) :=
  eq_of_beq (allBytes (fun c => calmB c == !(((c.toNat : Int) == 10) || (((c.toNat : Int) == 13) || ((c.toNat : Int) == 42)))) (by decide +kernel) c)
set_option maxHeartbeats 2000000 in
set_option maxRecDepth 100000 in
theorem jsscanRemarks_walk (a0 : ByteArray) (s0 : a0.size ≤ 140737488351232) (w : World) (ht : Lib.TabIs Tryd.prog w "strings.asciiSpace" .u8 Lib.asciiSpaceTab) :
    Calls Tryd.prog 4 #[.string a0] w fun e w' => e = .returned (.bool true) ∧ Below w.heap.size w w' := by
  obtain ⟨s, rfl⟩ : ∃ l : List UInt8, a0 = ⟨l.toArray⟩ := ⟨a0.data.toList, rfl⟩
  rw [mk_size] at s0
  go_enter Tryd.func4, Tryd.ntmps4
  go_wp2_with fail
  refine (alive15 _ ht).mono ?_
  rintro e w1 ⟨rfl, hb1⟩
  have ht1 := spc_keep ht hb1
  have HT := hide ht1
  clear ht ht1
  go_wp2_with fail
  go_loop [3] (fun i => ∃ k : Nat, i = .int .i64 (k : Int) ∧ k ≤ s.length ∧ Hid (CalmTo s k)) (fun i => s.length - (intOf i).toNat)
  case atStart => exact ⟨0, rfl, Nat.zero_le _, rfl⟩
  case round =>
    obtain ⟨k, rfl, hk, hrel⟩ := hrel
    by_cases hlt : k < s.length
    · have hlz : k < (⟨s.toArray⟩ : ByteArray).size := by rw [mk_size]; exact hlt
      obtain ⟨c, hc⟩ : ∃ c, (⟨s.toArray⟩ : ByteArray)[k]'hlz = c := ⟨_, rfl⟩
      have hc' : s[k]? = some c := by rw [List.getElem?_eq_getElem hlt, ← hc]; rfl
      have hcalm := calm_int c
      have HC := hide hc'
      clear hc'
      rcases Bool.eq_false_or_eq_true ((c.toNat : Int) == 10) with e1 | e1
      · clear hcalm
        go_wp2_with fail
        go_ret
        exact ⟨rfl, hb1⟩
      · rcases Bool.eq_false_or_eq_true ((c.toNat : Int) == 13) with e2 | e2
        · clear hcalm
          go_wp2_with fail
          go_ret
          exact ⟨rfl, hb1⟩
        · rcases Bool.eq_false_or_eq_true ((c.toNat : Int) == 42) with e3 | e3
          · clear hcalm
            go_wp2_with fail
            go_ret
            exact ⟨rfl, hb1⟩
          · rw [e1, e2, e3] at hcalm
            have hn := hide (hrel.out.next HC.out hcalm)
            clear hcalm
            go_wp2_with fail
            go_round
            case rel => exact ⟨k + 1, by go_num, by omega, hn⟩
            case measure => simp [intOf]; omega
    · have hk2 : k = s.length := by omega
      have hall : s.all calmB = true := by
        have := hrel.out
        unfold CalmTo at this
        rwa [hk2, List.take_length] at this
      have f1 := fun w ht => feed_any (0, []) ([47, 47] ++ s ++ [10]) w (by decide) (by decide) (by simp; omega) ht
      have f2 := fun w ht => feed_any (1, []) ([47, 42] ++ s ++ [42, 47]) w (by decide) (by decide) (by simp; omega) ht
      have r1 := remark_line s hall
      have r2 := remark_block s hall
      generalize feedB (0, []) ([47, 47] ++ s ++ [10]) = p1 at f1 r1
      generalize feedB (1, []) ([47, 42] ++ s ++ [42, 47]) = p2 at f2 r2
      obtain ⟨n1, v1⟩ := p1
      obtain ⟨n2, v2⟩ := p2
      simp only at r1 r2
      subst r1; subst r2
      have h1 : (⟨([47, 47] ++ s ++ [10]).toArray⟩ : ByteArray) = ⟨#[47, 47]⟩ ++ ⟨s.toArray⟩ ++ ⟨#[10]⟩ := by apply ByteArray.ext; simp
      have h2 : (⟨([47, 42] ++ s ++ [42, 47]).toArray⟩ : ByteArray) = ⟨#[47, 42]⟩ ++ ⟨s.toArray⟩ ++ ⟨#[42, 47]⟩ := by apply ByteArray.ext; simp
      rw [h1] at f1
      rw [h2] at f2
      have f1 := hide f1; have f2 := hide f2
      have hge : decide ((k : Int) < (s.length : Int)) = false := by simp; omega
      clear h1 h2 hall hrel hk2
      go_wp2_with fail
      refine (f1.out _ HT.out).mono ?_
      rintro e w2 ⟨rfl, hb2⟩
      go_wp2_with fail
      refine (f2.out _ (spc_keep HT.out hb2)).mono ?_
      rintro e w3 ⟨rfl, hb3⟩
      go_wp2_with fail
      go_ret
      exact ⟨rfl, below_step (below_step hb1 hb2) hb3⟩
end Go.Proofs.YtlandmahjdaphaaDoor
