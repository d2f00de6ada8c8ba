/-
  strings.Builder's WriteRune at a block of any type; utf.Decode.
-/
import Derived.Test.YtnepogddjinpoaaGreatDoorBuildT
import Derived.Test.YtnepogddjinpoaaGreatDoorM2
import Derived.Test.YtnepogddjinpoaaGreatDoorShelf
import Derived.Lib.OthersKept
namespace Go.Proofs.YtnepogddjinpoaaGreatDoor
open Go.RowKit
set_option linter.unusedVariables false
set_option linter.unusedSimpArgs false

theorem bt_copyCheck_o {T : TypeId} (hT : BT T) (B b : Nat) (bs : List Value) (w : World) (h : Lib.IsBuilder T 5 B b bs w) :
    Calls Tryz.prog 166 #[.pointer (some ⟨b, 0, none⟩)] w fun e w' => e = .returned (.tuple #[]) ∧ (Lib.BuilderAt T 5 B b (.pointer (some ⟨b, 0, none⟩)) bs w' ∧ Below B w w' ∧ Lib.OthersKept 5 (some b) w w') := by
  rcases h with h | h
  · refine (bt_copyCheck_fresh hT b w h.cell0 h.shape h.frozen0).mono ?_
    rintro e w' ⟨rfl, rfl⟩
    exact ⟨rfl, h.used _, (Below.refl B w).setCell (p := ⟨b, 0, none⟩) h.1 _, fun k o hk hkb _ => (Below.heap_setCell w ⟨b, 0, none⟩ _ k (fun e => hkb (by rw [e]))).trans hk⟩
  · refine (bt_copyCheck_used hT b w h.cell0).mono ?_
    rintro e w' ⟨rfl, rfl⟩
    exact ⟨rfl, h, Below.refl B _, fun k o hk _ _ => hk⟩
theorem own_block_ne {w : World} {base n size : Nat} {e : TypeId} {v : Value} {xs : List Value} (h : w.ownsRow base e size v n xs) {k : Nat} {o : Obj} (hk : w.heap[k]? = some o) (ho : ∀ c fz, o ≠ .cells c e fz) : v.ownBlock ≠ some k := by
  rcases h.2 with ⟨rfl, _⟩ | ⟨g, cap, cur, rfl, _, hg, _⟩
  · simp [Value.ownBlock]
  · intro e
    simp [Value.ownBlock] at e
    subst e
    rw [hg] at hk
    exact ho _ _ (Option.some.inj hk).symm
set_option maxHeartbeats 2000000 in
set_option maxRecDepth 100000 in
theorem bt_writeRune_any {T : TypeId} (hT : BT T) (B b : Nat) (bs : List Value) (r : Int) (hr0 : -2147483648 ≤ r) (hr1 : r ≤ 2147483647) (w : World) (h : Lib.IsBuilder T 5 B b bs w) (hlen : bs.length + 4 ≤ 140737488355328) (hBw : B ≤ w.heap.size) :
    Calls Tryz.prog 165 #[.pointer (some ⟨b, 0, none⟩), .int .i32 r] w fun e w' => (∃ v, e = .returned v) ∧ (Lib.IsBuilder T 5 B b (bs ++ Lib.runeCells r) w' ∧ Below B w w' ∧ Lib.OthersKept 5 (some b) w w') := by
  go_enter Tryz.func165, Tryz.ntmps165
  go_wp2_with (go_at_call 166; refine (bt_copyCheck_o hT B b bs _ h).mono ?_)
  rintro e w1 ⟨rfl, h1, hb1, hs1⟩
  obtain ⟨hB, v, hbk, hown, hne⟩ := h1
  have c0 : w1.cell? ⟨b, 0, none⟩ = some (.pointer (some ⟨b, 0, none⟩)) := by rw [Lib.cell_of_heap hbk]; rfl
  have c1 : w1.cell? ⟨b, 1, none⟩ = some v := by rw [Lib.cell_of_heap hbk]; rfl
  have hB1 : B ≤ w1.heap.size := by have := hb1.size; omega
  obtain ⟨q, cp, hv⟩ : ∃ q cp, v = .slice q bs.length cp := by
    rcases hown.2 with ⟨hv, h0⟩ | ⟨g, cap, cur, hv, _⟩
    · exact ⟨_, _, by rw [hv, h0]⟩
    · exact ⟨_, _, hv⟩
  subst hv
  go_wp2_with (go_at_call 209; refine (Tryz.utf8_AppendRune_plain B _ bs.length bs r hr0 hr1 _ hown hlen hB1).mono ?_)
  rintro e w2 ⟨v', rfl, hown', o, hgrow⟩
  have hlt : b < w1.heap.size := lt_of_heap hbk
  have hb2 : w2.heap[b]? = some (.cells #[.pointer (some ⟨b, 0, none⟩), .slice q bs.length cp] T (0, 0)) := by
    rw [hgrow.block b (by simp; omega) (fun e => hne e.symm), Lib.alloc_old w1 _ b hlt]
    exact hbk
  have d0 : w2.cell? ⟨b, 0, none⟩ = some (.pointer (some ⟨b, 0, none⟩)) := by rw [Lib.cell_of_heap hb2]; rfl
  have d1 : w2.cell? ⟨b, 1, none⟩ = some (.slice q bs.length cp) := by rw [Lib.cell_of_heap hb2]; rfl
  have f1 : w2.frozen? ⟨b, 1, none⟩ = false := Lib.frozen_of_heap hb2 1
  obtain ⟨q', cp', hv'⟩ : ∃ q cp, v' = .slice q (bs.length + (Lib.runeCells r).length) cp := by
    rcases hown'.2 with ⟨hv, h0⟩ | ⟨g, cap, cur, hv, _⟩
    · exact ⟨_, _, by rw [hv, h0]⟩
    · exact ⟨_, _, hv⟩
  subst hv'
  go_wp2
  go_ret2
  refine ⟨⟨_, rfl⟩, .inr ?_, ?_, ?_⟩
  · exact Lib.BuilderAt.put (T := T) (e := 5) hB hb2 (bs' := bs ++ Lib.runeCells r) (by simpa using hown') hT.ne
  · exact ((hb1.alloc (by have := hb1.size; omega) _).grown hgrow (by have := hb1.size; simp; omega) (fun k hk => (hown.lt k hk).1)).setCell (p := ⟨b, 1, none⟩) hB _
  · exact hs1.trans fun k o' hk hkb ho' => (Below.heap_setCell _ ⟨b, 1, none⟩ _ k (fun e => hkb (by rw [e]))).trans ((hgrow.block k (by have := lt_of_heap hk; simp; omega) (fun e => own_block_ne hown hk ho' e.symm)).trans ((Lib.alloc_old w1 _ k (lt_of_heap hk)).trans hk))
theorem decR_kind (l : List UInt8) : ((decR l).1 = -1 ∧ (decR l).2 < 2) ∨ (0 ≤ (decR l).1 ∧ (decR l).1 ≤ 1114111 ∧ ((decR l).1 ≠ 65533 ∨ 2 ≤ (decR l).2) ∧ (decR l).2 ≤ 4) := by
  cases l with
  | nil => exact .inl ⟨rfl, by decide⟩
  | cons b r =>
    by_cases h : b.toNat < 128
    · rw [(goD_one b r h).2]
      exact .inr ⟨by simp, by simp; omega, .inl (by simp; omega), by simp⟩
    · rw [decR_cons]
      split
      · exact .inl ⟨rfl, by decide⟩
      · rename_i h1
        split
        · exact .inl ⟨rfl, by decide⟩
        · split
          · rename_i h3
            have hs : 2 ≤ sizeR b := by
              have h0 : sizeR b ≠ 1 := by unfold sizeR; rw [if_neg (by omega)]; (repeat' split) <;> omega
              omega
            have := good_nat h3.1
            exact .inr ⟨by simp, by simp at this ⊢; omega, .inr hs, sizeR_le b⟩
          · exact .inl ⟨rfl, by decide⟩
set_option maxHeartbeats 1000000 in
set_option maxRecDepth 100000 in
theorem utfDecode_any (l : List UInt8) (w : World) (hT : Lib.Utf8Tabs 1 2 w) :
    Calls Tryz.prog 208 #[.string ⟨l.toArray⟩] w fun e w' => e = .returned (.tuple #[.int .i64 (decR l).1, .int .i64 ((decR l).2 : Int)]) ∧ Below w.heap.size w w' := by
  have cD := Tryz.utf8_DecodeRuneInString ⟨l.toArray⟩ w hT
  rw [decGo] at cD
  have hk := decR_kind l
  generalize decR l = p at cD hk
  obtain ⟨c, n⟩ := p
  simp only at hk ⊢
  rcases hk with ⟨rfl, hn⟩ | ⟨h0, h1, h2, h4⟩
  · have ht : tell (-1, n) = (65533, n) := rfl
    rw [ht] at cD
    simp only at cD
    have hni : (n : Int) < 2 := by omega
    have cD := hide cD
    go_enter Tryz.func208, Tryz.ntmps208
    go_wp2_with fail
    refine cD.out.mono ?_
    rintro e w1 ⟨rfl, hb⟩
    go_wp2_with fail
    go_ret2
    exact ⟨rfl, hb⟩
  · obtain ⟨m, rfl⟩ : ∃ m : Nat, c = (m : Int) := ⟨c.toNat, by omega⟩
    rw [tell_nat] at cD
    simp only at cD
    have cD := hide cD
    have hw : IntKind.i64.wrap (m : Int) = (m : Int) := IntWalk.i64_in _ (by omega)
    have hn0 : (0 : Int) ≤ (n : Int) := by omega
    have h4' : (n : Int) ≤ 4 := by omega
    by_cases h5 : m = 65533
    · have hni : decide ((n : Int) < 2) = false := by simp; omega
      subst h5
      clear h0 h1 h2
      go_enter Tryz.func208, Tryz.ntmps208
      go_wp2_with fail
      refine cD.out.mono ?_
      rintro e w1 ⟨rfl, hb⟩
      go_wp2_with fail
      go_ret2
      exact ⟨rfl, hb⟩
    · have hne : ((m : Int) == 65533) = false := by simp; omega
      clear h5 h0 h1 h2
      go_enter Tryz.func208, Tryz.ntmps208
      go_wp2_with fail
      refine cD.out.mono ?_
      rintro e w1 ⟨rfl, hb⟩
      go_wp2_with fail
      go_ret2
      exact ⟨rfl, hb⟩
end Go.Proofs.YtnepogddjinpoaaGreatDoor
