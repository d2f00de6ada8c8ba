/-
  strings.Builder's WriteRune at a block of any type; utf.Decode.
-/
import Derived.Test.YtdnmgpidfjkiaaaDoorBuildT
import Derived.Test.YtdnmgpidfjkiaaaDoorM1
import Derived.Test.YtdnmgpidfjkiaaaDoorShelf
import Derived.Lib.OthersKept
namespace Go.Proofs.YtdnmgpidfjkiaaaDoor
open Go.RowKit
set_option linter.unusedVariables false
set_option linter.unusedSimpArgs false

theorem bt_copyCheck_o {T : TypeId} (hT : BT T) (B b : Nat) (bs : List Value) (w : World) (h : Lib.IsBuilder T 5 B b bs w) :
    Calls Tryd.prog 92 #[.pointer (some ⟨b, 0, none⟩)] w fun e w' => e = .returned (.tuple #[]) ∧ (Lib.BuilderAt T 5 B b (.pointer (some ⟨b, 0, none⟩)) bs w' ∧ Below B w w' ∧ Lib.OthersKept 5 (some b) w w') := by
  rcases h with h | h
  · refine (bt_copyCheck_fresh hT b w h.cell0 h.shape h.frozen0).mono ?_
    rintro e w' ⟨rfl, rfl⟩
    exact ⟨rfl, h.used _, (Below.refl B w).setCell (p := ⟨b, 0, none⟩) h.1 _, fun k o hk hkb _ => (Below.heap_setCell w ⟨b, 0, none⟩ _ k (fun e => hkb (by rw [e]))).trans hk⟩
  · refine (bt_copyCheck_used hT b w h.cell0).mono ?_
    rintro e w' ⟨rfl, rfl⟩
    exact ⟨rfl, h, Below.refl B _, fun k o hk _ _ => hk⟩
theorem own_block_ne {w : World} {base n size : Nat} {e : TypeId} {v : Value} {xs : List Value} (h : w.ownsRow base e size v n xs) {k : Nat} {o : Obj} (hk : w.heap[k]? = some o) (ho : ∀ c fz, o ≠ .cells c e fz) : v.ownBlock ≠ some k := by
  rcases h.2 with ⟨rfl, _⟩ | ⟨g, cap, cur, rfl, _, hg, _⟩
  · simp [Value.ownBlock]
  · intro e
    simp [Value.ownBlock] at e
    subst e
    rw [hg] at hk
    exact ho _ _ (Option.some.inj hk).symm
theorem decR_kind (l : List UInt8) : ((decR l).1 = -1 ∧ (decR l).2 < 2) ∨ (0 ≤ (decR l).1 ∧ (decR l).1 ≤ 1114111 ∧ ((decR l).1 ≠ 65533 ∨ 2 ≤ (decR l).2) ∧ (decR l).2 ≤ 4) := by
  cases l with
  | nil => exact .inl ⟨rfl, by decide⟩
  | cons b r =>
    by_cases h : b.toNat < 128
    · rw [(goD_one b r h).2]
      exact .inr ⟨by simp, by simp; omega, .inl (by simp; omega), by simp⟩
    · rw [decR_cons]
      split
      · exact .inl ⟨rfl, by decide⟩
      · rename_i h1
        split
        · exact .inl ⟨rfl, by decide⟩
        · split
          · rename_i h3
            have hs : 2 ≤ sizeR b := by
              have h0 : sizeR b ≠ 1 := by unfold sizeR; rw [if_neg (by omega)]; (repeat' split) <;> omega
              omega
            have := good_nat h3.1
            exact .inr ⟨by simp, by simp at this ⊢; omega, .inr hs, sizeR_le b⟩
          · exact .inl ⟨rfl, by decide⟩
set_option maxHeartbeats 1000000 in
set_option maxRecDepth 100000 in
theorem utfDecode_any (l : List UInt8) (w : World) (hT : Lib.Utf8Tabs 3 4 w) :
    Calls Tryd.prog 123 #[.string ⟨l.toArray⟩] w fun e w' => e = .returned (.tuple #[.int .i64 (decR l).1, .int .i64 ((decR l).2 : Int)]) ∧ Below w.heap.size w w' := by
  have cD := Tryd.utf8_DecodeRuneInString ⟨l.toArray⟩ w hT
  rw [decGo] at cD
  have hk := decR_kind l
  generalize decR l = p at cD hk
  obtain ⟨c, n⟩ := p
  simp only at hk ⊢
  rcases hk with ⟨rfl, hn⟩ | ⟨h0, h1, h2, h4⟩
  · have ht : tell (-1, n) = (65533, n) := rfl
    rw [ht] at cD
    simp only at cD
    have hni : (n : Int) < 2 := by omega
    have cD := hide cD
    go_enter Tryd.func123, Tryd.ntmps123
    go_wp2_with fail
    refine cD.out.mono ?_
    rintro e w1 ⟨rfl, hb⟩
    go_wp2_with fail
    go_ret2
    exact ⟨rfl, hb⟩
  · obtain ⟨m, rfl⟩ : ∃ m : Nat, c = (m : Int) := ⟨c.toNat, by omega⟩
    rw [tell_nat] at cD
    simp only at cD
    have cD := hide cD
    have hw : IntKind.i64.wrap (m : Int) = (m : Int) := IntWalk.i64_in _ (by omega)
    have hn0 : (0 : Int) ≤ (n : Int) := by omega
    have h4' : (n : Int) ≤ 4 := by omega
    by_cases h5 : m = 65533
    · have hni : decide ((n : Int) < 2) = false := by simp; omega
      subst h5
      clear h0 h1 h2
      go_enter Tryd.func123, Tryd.ntmps123
      go_wp2_with fail
      refine cD.out.mono ?_
      rintro e w1 ⟨rfl, hb⟩
      go_wp2_with fail
      go_ret2
      exact ⟨rfl, hb⟩
    · have hne : ((m : Int) == 65533) = false := by simp; omega
      clear h5 h0 h1 h2
      go_enter Tryd.func123, Tryd.ntmps123
      go_wp2_with fail
      refine cD.out.mono ?_
      rintro e w1 ⟨rfl, hb⟩
      go_wp2_with fail
      go_ret2
      exact ⟨rfl, hb⟩
end Go.Proofs.YtdnmgpidfjkiaaaDoor
