/-
  jslex: where a text ends.
-/
import Derived.Test.YtdnmgpidfjkiaaaDoorLexA
import Derived.Test.YtdnmgpidfjkiaaaDoorM6
import Derived.Deep.QuietTactic
namespace Go.Proofs.YtdnmgpidfjkiaaaDoor
open Go.RowKit
set_option linter.unusedVariables false
set_option linter.unusedSimpArgs false

theorem drop_consL (l : List UInt8) (k : Nat) (h : k < l.length) : l.drop k = l[k] :: l.drop (k + 1) := List.drop_eq_getElem_cons h
theorem eq_intQ (c q : UInt8) : (c == q) = ((c.toNat : Int) == (q.toNat : Int)) := by
  rw [Bool.eq_iff_iff, beq_iff_eq, beq_iff_eq]
  constructor
  · rintro rfl; rfl
  · intro h2; apply UInt8.toNat_inj.1; omega
set_option maxHeartbeats 2000000 in
set_option maxRecDepth 100000 in
theorem ends_any (s : List UInt8) (b : Nat) (v1 v2 : Value) (a : Nat) (q : UInt8) (w : World) (hk : Blk w b 72 #[.string ⟨s.toArray⟩, v1, v2]) (ha : a < s.length) (hz : s.length ≤ 65536) :
    Calls Tryd.prog 74 #[.pointer (some ⟨b, 0, none⟩), .int .i64 (a : Int), .int .u8 (q.toNat : Int)] w fun e w' => e = .returned (.int .i64 (endsI q s a)) ∧ Below w.heap.size w w' := by
  have hbl := hk.lt
  have hR : Hid (outI (a + 1) (endsG q (s.drop (a + 1)) false false) = endsI q s a) := rfl
  generalize endsI q s a = R at hR ⊢
  have hsz : (⟨s.toArray⟩ : ByteArray).size = s.length := mk_size s
  have c0 := hk.cell 0
  simp at c0
  go_enter Tryd.func74, Tryd.ntmps74
  go_wp2_with fail
  clear c0
  go_loopw [7, 8] (fun cv iv wr => ∃ (i : Nat) (cl : Bool), cv = .bool cl ∧ iv = .int .i64 (i : Int) ∧ i ≤ s.length + 1 ∧ Below w.heap.size w wr ∧ Blk wr b 72 #[.string ⟨s.toArray⟩, v1, v2] ∧ Hid (outI i (endsG q (s.drop i) false cl) = R)) (fun _ iv _ => s.length + 2 - (intOf iv).toNat)
  case atStart => exact ⟨a + 1, false, rfl, by go_num, by omega, Below.refl _ _, hk, hR⟩
  case round =>
    obtain ⟨i, cl, rfl, rfl, hi, hB, hkr, hrel⟩ := hrel
    have c0 := hkr.cell 0
    simp at c0
    have HK := hide hkr
    clear hkr
    by_cases hlt : i < s.length
    · have hlz : i < (⟨s.toArray⟩ : ByteArray).size := by rw [mk_size]; exact hlt
      obtain ⟨x, hx⟩ : ∃ x, (⟨s.toArray⟩ : ByteArray)[i]'hlz = x := ⟨_, rfl⟩
      have hlx : s[i] = x := hx
      have hki : (i : Int) < (s.length : Int) := by omega
      have hst := hrel.out
      rw [drop_consL s i hlt, hlx, endsG_cons] at hst
      simp only [Bool.false_eq_true, if_false] at hst
      rw [eq_intL x 92 92 rfl, newlB_intL, eq_intL x 91 91 rfl, eq_intL x 93 93 rfl, eq_intL q 47 47 rfl, eq_intQ x q] at hst
      clear hrel hlx
      have fin : ∀ (c2 : Bool), outI i ((endsG q (s.drop (i + 1)) false c2).map (· + 1)) = R → Hid (outI (i + 1) (endsG q (s.drop (i + 1)) false c2) = R) := fun c2 h => by rw [outI_map] at h; exact h
      rcases Bool.eq_false_or_eq_true ((x.toNat : Int) == ((92 : Nat) : Int)) with g1 | g1
      · rw [g1] at hst
        have g1' : ((x.toNat : Int) == 92) = true := g1
        have hnx : Hid (outI (i + 2) (endsG q (s.drop (i + 2)) false cl) = R) := by
          rcases Nat.lt_or_ge (i + 1) s.length with h | h
          · rw [if_pos rfl, outI_map, drop_consL s (i + 1) h, endsG_cons, if_pos rfl, outI_map] at hst
            exact hst
          · rw [if_pos rfl, outI_map, List.drop_eq_nil_of_le h, endsG_nil] at hst
            show _ = _
            rw [List.drop_eq_nil_of_le (by omega), endsG_nil]
            exact hst
        clear hst g1
        go_wp2_with fail
        go_roundw
        case rel => exact ⟨i + 2, cl, rfl, by go_num, by omega, hB, HK.out, hnx⟩
        case measure => simp [intOf]; omega
      · rw [g1] at hst
        have g1' : ((x.toNat : Int) == 92) = false := g1
        simp only [Bool.false_eq_true, if_false] at hst
        rcases Bool.eq_false_or_eq_true (((x.toNat : Int) == 10) || ((x.toNat : Int) == 13)) with g2 | g2
        · rw [g2] at hst
          have hR1 : R = -1 := by rw [if_pos rfl] at hst; exact hst.symm
          clear hst fin
          rcases Bool.eq_false_or_eq_true ((x.toNat : Int) == 10) with g3 | g3
          · go_wp2_with fail
            go_ret
            exact ⟨by rw [hR1]; rfl, hB⟩
          · rw [g3, Bool.false_or] at g2
            go_wp2_with fail
            go_ret
            exact ⟨by rw [hR1]; rfl, hB⟩
        · rw [g2] at hst
          simp only [Bool.false_eq_true, if_false] at hst
          obtain ⟨g3, g4⟩ : ((x.toNat : Int) == 10) = false ∧ ((x.toNat : Int) == 13) = false := by simpa using g2
          clear g2
          rcases Bool.eq_false_or_eq_true (((q.toNat : Int) == ((47 : Nat) : Int)) && ((x.toNat : Int) == ((91 : Nat) : Int))) with g5 | g5
          · rw [g5] at hst
            rw [if_pos rfl] at hst
            have hnx := fin _ hst
            obtain ⟨g6, g7⟩ : ((q.toNat : Int) == 47) = true ∧ ((x.toNat : Int) == 91) = true := by simpa using g5
            clear hst fin g5
            go_wp2_with fail
            go_roundw
            case rel => exact ⟨i + 1, true, rfl, by go_num, by omega, hB, HK.out, hnx⟩
            case measure => simp [intOf]; omega
          · rw [g5] at hst
            simp only [Bool.false_eq_true, if_false] at hst
            have g5' : (((q.toNat : Int) == 47) && ((x.toNat : Int) == 91)) = false := g5
            clear g5
            rcases Bool.eq_false_or_eq_true ((x.toNat : Int) == ((93 : Nat) : Int)) with g6 | g6
            · rw [g6] at hst
              rw [if_pos rfl] at hst
              have hnx := fin _ hst
              have g6' : ((x.toNat : Int) == 93) = true := g6
              clear hst fin g6
              rcases Bool.eq_false_or_eq_true ((q.toNat : Int) == 47) with g7 | g7
              · rw [g7, Bool.true_and] at g5'
                go_wp2_with fail
                go_roundw
                case rel => exact ⟨i + 1, false, rfl, by go_num, by omega, hB, HK.out, hnx⟩
                case measure => simp [intOf]; omega
              · go_wp2_with fail
                go_roundw
                case rel => exact ⟨i + 1, false, rfl, by go_num, by omega, hB, HK.out, hnx⟩
                case measure => simp [intOf]; omega
            · rw [g6] at hst
              simp only [Bool.false_eq_true, if_false] at hst
              have g6' : ((x.toNat : Int) == 93) = false := g6
              clear g6
              rcases Bool.eq_false_or_eq_true ((x.toNat : Int) == (q.toNat : Int)) with g8 | g8
              · rw [g8] at hst
                cases cl
                · simp [outI] at hst
                  have hR1 : R = (i : Int) + 1 := by omega
                  clear hst fin
                  rcases Bool.eq_false_or_eq_true ((q.toNat : Int) == 47) with g7 | g7
                  · rw [g7, Bool.true_and] at g5'
                    go_wp2_with fail
                    go_ret
                    exact ⟨by rw [hR1]; rfl, hB⟩
                  · go_wp2_with fail
                    go_ret
                    exact ⟨by rw [hR1]; rfl, hB⟩
                · simp only [Bool.not_true, Bool.and_false, Bool.false_eq_true, if_false] at hst
                  have hnx := fin _ hst
                  clear hst fin
                  rcases Bool.eq_false_or_eq_true ((q.toNat : Int) == 47) with g7 | g7
                  · rw [g7, Bool.true_and] at g5'
                    go_wp2_with fail
                    go_roundw
                    case rel => exact ⟨i + 1, true, rfl, by go_num, by omega, hB, HK.out, hnx⟩
                    case measure => simp [intOf]; omega
                  · go_wp2_with fail
                    go_roundw
                    case rel => exact ⟨i + 1, true, rfl, by go_num, by omega, hB, HK.out, hnx⟩
                    case measure => simp [intOf]; omega
              · rw [g8] at hst
                simp only [Bool.false_and, Bool.false_eq_true, if_false] at hst
                have hnx := fin _ hst
                clear hst fin
                rcases Bool.eq_false_or_eq_true ((q.toNat : Int) == 47) with g7 | g7
                · rw [g7, Bool.true_and] at g5'
                  go_wp2_with fail
                  go_roundw
                  case rel => exact ⟨i + 1, cl, rfl, by go_num, by omega, hB, HK.out, hnx⟩
                  case measure => simp [intOf]; omega
                · go_wp2_with fail
                  go_roundw
                  case rel => exact ⟨i + 1, cl, rfl, by go_num, by omega, hB, HK.out, hnx⟩
                  case measure => simp [intOf]; omega
    · have hge : decide ((i : Int) < (s.length : Int)) = false := by simp; omega
      have hR1 : R = -1 := by
        have := hrel.out
        rw [List.drop_eq_nil_of_le (by omega), endsG_nil] at this
        exact this.symm
      clear hrel
      go_wp2_with fail
      go_ret
      exact ⟨by rw [hR1]; rfl, hB⟩
end Go.Proofs.YtdnmgpidfjkiaaaDoor
