/-
  MarksReads: what is read may be, and its text is the one that was read. THE WALK.
-/
import Derived.Test.YtlandmahjdaphaaDoorParseS
import Derived.Test.YtlandmahjdaphaaDoorLaidU8
import Derived.Test.YtlandmahjdaphaaDoorRefCheck
namespace Go.Proofs.YtlandmahjdaphaaDoor
open Go.RowKit
set_option linter.unusedVariables false
set_option linter.unusedSimpArgs false

theorem parseS_any (l : List UInt8) (w : World) (hz : l.length ≤ 100000000) (hT : Lib.Utf8Tabs 3 4 w) :
    Calls Tryd.prog 12 #[.string ⟨l.toArray⟩] w fun e w' => e = .returned (.tuple #[.agg #[.int .i64 (parseL (Lib.split l [124])).1.k, .string (parseL (Lib.split l [124])).1.el, .string (parseL (Lib.split l [124])).1.at_, .int .u8 (parseL (Lib.split l [124])).1.d, .string (parseL (Lib.split l [124])).1.pe, .string (parseL (Lib.split l [124])).1.re, .int .i64 (parseL (Lib.split l [124])).1.pa, .string (parseL (Lib.split l [124])).1.wo], .int .i64 (parseL (Lib.split l [124])).2]) ∧ Below w.heap.size w w' := by
  have hd : (piecesOf ⟨l.toArray⟩).map (·.data.toList) = Lib.split l [124] := pieces_data ⟨l.toArray⟩
  refine parseS_gen ⟨l.toArray⟩ (piecesOf ⟨l.toArray⟩) _ w hd ?_ hT (fun w => split_bar ⟨l.toArray⟩ w (by rw [mk_size]; omega))
  intro x hx
  have hm : x.data.toList ∈ Lib.split l [124] := by rw [← hd]; exact List.mem_map.2 ⟨x, hx, rfl⟩
  have h1 := join_mem_len _ [124] _ hm
  rw [join_split, size_list] at h1
  omega
/-! ### The plain law: what is read has its text again. -/
theorem eight_list {α : Type} (L : List α) (h : L.length = 8) : ∃ a b c d e f g i, L = [a, b, c, d, e, f, g, i] := by
  match L, h with
  | [a, b, c, d, e, f, g, i], _ => exact ⟨a, b, c, d, e, f, g, i, rfl⟩
theorem anyBad_no {L : List (List UInt8)} (h : anyBad L = false) (j : Nat) (hj : j < 8) : fieldBad j (L.getD j []) = false := by
  unfold anyBad at h
  rw [List.any_eq_false] at h
  have := h j (List.mem_range.2 hj)
  simpa using this
theorem read_back (l : List UInt8) (h : (parseL (Lib.split l [124])).2 = 0) : (parseL (Lib.split l [124])).1.text = l ∧ (parseL (Lib.split l [124])).1.chk = 0 ∧ (parseL (Lib.split l [124])).1.d ≤ 255 ∧ 0 ≤ (parseL (Lib.split l [124])).1.d := by
  have hj := join_split 124 l
  generalize Lib.split l [124] = L at h hj ⊢
  unfold parseL at h ⊢
  by_cases h8 : L.length ≠ 8
  · rw [if_pos h8] at h; exact absurd h (by decide)
  · rw [if_neg h8] at h ⊢
    rcases Bool.eq_false_or_eq_true (anyBad L) with hb | hb
    · rw [if_pos hb] at h; exact absurd h (by decide)
    · rw [if_neg (by rw [hb]; decide)] at h ⊢
      by_cases h3 : numAt 3 (L.getD 3 []) < 0 ∨ 255 < numAt 3 (L.getD 3 [])
      · rw [if_pos h3] at h; exact absurd h (by decide)
      · rw [if_neg h3] at h ⊢
        by_cases hc : (stOf L).chk = 0
        · rw [if_pos hc]
          refine ⟨?_, hc, ?_, ?_⟩
          · rw [← hj]
            have f0 := fieldBack_n 0 _ (by decide) (anyBad_no hb 0 (by decide))
            have f1 := fieldBack_t 1 _ (by decide) (anyBad_no hb 1 (by decide))
            have f2 := fieldBack_t 2 _ (by decide) (anyBad_no hb 2 (by decide))
            have f3 := fieldBack_n 3 _ (by decide) (anyBad_no hb 3 (by decide))
            have f4 := fieldBack_t 4 _ (by decide) (anyBad_no hb 4 (by decide))
            have f5 := fieldBack_t 5 _ (by decide) (anyBad_no hb 5 (by decide))
            have f6 := fieldBack_n 6 _ (by decide) (anyBad_no hb 6 (by decide))
            have f7 := fieldBack_t 7 _ (by decide) (anyBad_no hb 7 (by decide))
            show Lib.join [pInt (numAt 0 (L.getD 0 [])), encM (txtAt 1 (L.getD 1 [])), encM (txtAt 2 (L.getD 2 [])), pInt (numAt 3 (L.getD 3 [])), encM (txtAt 4 (L.getD 4 [])), encM (txtAt 5 (L.getD 5 [])), pInt (numAt 6 (L.getD 6 [])), encM (txtAt 7 (L.getD 7 []))] [124] = Lib.join L [124]
            rw [f0, f1, f2, f3, f4, f5, f6, f7]
            obtain ⟨a, b, c, d, e, f, g, i, rfl⟩ := eight_list L (by omega)
            rfl
          · show numAt 3 (L.getD 3 []) ≤ 255; omega
          · show 0 ≤ numAt 3 (L.getD 3 []); omega
        · rw [if_neg hc] at h; exact absurd h hc
theorem read_small (l : List UInt8) (h : (parseL (Lib.split l [124])).2 = 0) : (parseL (Lib.split l [124])).1.small l.length ∧ (parseL (Lib.split l [124])).1.rng := by
  have hm : ∀ j : Nat, ((Lib.split l [124]).getD j []).length ≤ l.length := by
    intro j
    rcases Nat.lt_or_ge j (Lib.split l [124]).length with hj | hj
    · have h1 := join_mem_len (Lib.split l [124]) [124] ((Lib.split l [124])[j]) (List.getElem_mem hj)
      rw [join_split] at h1
      simpa [List.getD, hj] using h1
    · simp [List.getD, hj]
  obtain ⟨_, _, hd1, hd0⟩ := read_back l h
  have hs : (parseL (Lib.split l [124])).1 = stOf (Lib.split l [124]) := by
    generalize Lib.split l [124] = L at h ⊢
    unfold parseL at h ⊢
    split at h
    · exact absurd h (by decide)
    · split at h
      · exact absurd h (by decide)
      · split at h
        · exact absurd h (by decide)
        · split at h
          · rename_i h1 h2 h3 h4
            rw [if_neg h1, if_neg h2, if_neg h3, if_pos h4]
          · rename_i h4; exact absurd h h4
  rw [hs] at hd1 hd0 ⊢
  have ht : ∀ j, (ByteArray.mk (txtAt j ((Lib.split l [124]).getD j [])).toArray).size ≤ l.length := by
    intro j
    rw [mk_size]
    unfold txtAt
    split
    · simp
    · exact Nat.le_trans (unp_len _) (hm j)
  have hn : ∀ j, -9223372036854775808 ≤ numAt j ((Lib.split l [124]).getD j []) ∧ numAt j ((Lib.split l [124]).getD j []) ≤ 9223372036854775807 := by
    intro j
    unfold numAt
    split
    · have := pParse_range ((Lib.split l [124]).getD j []); omega
    · omega
  exact ⟨⟨ht 1, ht 2, ht 4, ht 5, ht 7⟩, hn 0, ⟨hd0, hd1⟩, hn 6⟩
/-! ### The walk -/
theorem same_none : sameV 0 ⟨#[]⟩ ⟨#[]⟩ 0 ⟨#[]⟩ ⟨#[]⟩ 0 ⟨#[]⟩ 0 ⟨#[]⟩ ⟨#[]⟩ 0 ⟨#[]⟩ ⟨#[]⟩ 0 ⟨#[]⟩ = true := by decide +kernel
set_option maxHeartbeats 4000000 in
set_option maxRecDepth 100000 in
theorem reads_no (t : ByteArray) (e1 : Int) (h1 : (e1 != 0) = true) (w : World) (hT : Lib.Utf8Tabs 3 4 w)
    (cX : ∀ W, Below w.heap.size w W → Calls Tryd.prog 12 #[.string t] W fun e w' => e = .returned (.tuple #[.agg noneC, .int .i64 e1]) ∧ Below W.heap.size W w') :
    Calls Tryd.prog 6 #[.string t] w fun e w' => e = .returned (.bool true) ∧ Below w.heap.size w w' := by
  have cX := hide cX
  have hs := same_none
  go_enter Tryd.func6, Tryd.ntmps6
  go_wp2_with fail
  refine (alive13 _ hT).mono ?_
  rintro e w1 ⟨rfl, hb1⟩
  go_wp2_with fail
  refine (cX.out _ hb1).mono ?_
  rintro e w2 ⟨rfl, hb2⟩
  have hB2 := below_step hb1 hb2
  have hX := Blk.new w2 29 noneC
  have hB3 := hB2.alloc hB2.size (.cells noneC 29)
  obtain ⟨x0, x1', x2', x3', x4', x5', x6', x7'⟩ := hX.eight
  go_wp2_with (go_at_call 13; refine (num13 _ _).mono ?_; rintro e wn ⟨rfl, rfl⟩)
  go_ret
  exact ⟨rfl, hB3⟩
set_option maxHeartbeats 4000000 in
set_option maxRecDepth 100000 in
theorem reads_yes (xk xd xp : Int) (x1 x2 x4 x5 x7 : ByteArray) (t : ByteArray) (w : World) (hT : Lib.Utf8Tabs 3 4 w)
    (cX : ∀ W, Below w.heap.size w W → Calls Tryd.prog 12 #[.string t] W fun e w' => e = .returned (.tuple #[.agg #[.int .i64 xk, .string x1, .string x2, .int .u8 xd, .string x4, .string x5, .int .i64 xp, .string x7], .int .i64 0]) ∧ Below W.heap.size W w')
    (cC : ∀ W, Below w.heap.size w W → Calls Tryd.prog 14 #[.agg #[.int .i64 xk, .string x1, .string x2, .int .u8 xd, .string x4, .string x5, .int .i64 xp, .string x7]] W fun e w' => e = .returned (.int .i64 0) ∧ Below W.heap.size W w')
    (cP : ∀ W, Below w.heap.size w W → Calls Tryd.prog 15 #[.agg #[.int .i64 xk, .string x1, .string x2, .int .u8 xd, .string x4, .string x5, .int .i64 xp, .string x7]] W fun e w' => e = .returned (.string t) ∧ Below W.heap.size W w') :
    Calls Tryd.prog 6 #[.string t] w fun e w' => e = .returned (.bool true) ∧ Below w.heap.size w w' := by
  have cX := hide cX; have cC := hide cC; have cP := hide cP
  go_enter Tryd.func6, Tryd.ntmps6
  go_wp2_with fail
  refine (alive13 _ hT).mono ?_
  rintro e w1 ⟨rfl, hb1⟩
  go_wp2_with fail
  refine (cX.out _ hb1).mono ?_
  rintro e w2 ⟨rfl, hb2⟩
  have hB2 := below_step hb1 hb2
  have hX := Blk.new w2 29 #[.int .i64 xk, .string x1, .string x2, .int .u8 xd, .string x4, .string x5, .int .i64 xp, .string x7]
  have hB3 := hB2.alloc hB2.size (.cells #[.int .i64 xk, .string x1, .string x2, .int .u8 xd, .string x4, .string x5, .int .i64 xp, .string x7] 29)
  obtain ⟨x0, x1', x2', x3', x4', x5', x6', x7'⟩ := hX.eight
  go_wp2_with (go_at_call 13; refine (num13 _ _).mono ?_; rintro e wn ⟨rfl, rfl⟩)
  generalize w2.alloc (.cells #[.int .i64 xk, .string x1, .string x2, .int .u8 xd, .string x4, .string x5, .int .i64 xp, .string x7] 29) = W2 at *
  refine (cC.out _ hB3).mono ?_
  rintro e w3 ⟨rfl, hb3⟩
  have hX3 := hX.below hb3 hX.lt
  have hB4 := hB3.trans (hb3.mono hB3.size)
  clear hX hB3 hb3 x0 x1' x2' x3' x4' x5' x6' x7'
  obtain ⟨x0, x1', x2', x3', x4', x5', x6', x7'⟩ := hX3.eight
  go_wp2_with fail
  refine (cP.out _ hB4).mono ?_
  rintro e w4 ⟨rfl, hb4⟩
  go_wp2_with fail
  go_ret
  exact ⟨rfl, hB4.trans (hb4.mono hB4.size)⟩
theorem parse_none (l : List UInt8) (h : (parseL (Lib.split l [124])).2 ≠ 0) : (parseL (Lib.split l [124])).1 = StV.none_ := by
  generalize Lib.split l [124] = L at h ⊢
  unfold parseL at h ⊢
  split
  · rfl
  · rename_i h1
    rw [if_neg h1] at h
    split
    · rfl
    · rename_i h2
      rw [if_neg h2] at h
      split
      · rfl
      · rename_i h3
        rw [if_neg h3] at h
        split
        · rename_i h4; rw [if_pos h4] at h; exact absurd rfl h
        · rfl
set_option maxHeartbeats 1000000 in
theorem marksReads_walk (a0 : ByteArray) (s0 : a0.size ≤ 1048576) (w : World) (hT : Lib.Utf8Tabs 3 4 w) :
    Calls Tryd.prog 6 #[.string a0] w fun e w' => e = .returned (.bool true) ∧ Below w.heap.size w w' := by
  obtain ⟨l, rfl⟩ : ∃ l : List UInt8, a0 = ⟨l.toArray⟩ := ⟨a0.data.toList, rfl⟩
  rw [mk_size] at s0
  have cX := fun W (hW : Below w.heap.size w W) => parseS_any l W (by omega) (Utf8Tabs_below hT hW)
  by_cases h : (parseL (Lib.split l [124])).2 = 0
  · obtain ⟨hs, hr⟩ := read_small l h
    obtain ⟨ht, hc, _, _⟩ := read_back l h
    have cP := fun W (hW : Below w.heap.size w W) => printS_any (parseL (Lib.split l [124])).1 hr l.length (by omega) hs W (Utf8Tabs_below hT hW)
    rw [ht] at cP
    rw [h] at cX
    exact reads_yes _ _ _ _ _ _ _ _ ⟨l.toArray⟩ w hT cX (fun W hW => refCheck_any (parseL (Lib.split l [124])).1 hc W) cP
  · have hn := parse_none l h
    rw [hn] at cX
    exact reads_no ⟨l.toArray⟩ (parseL (Lib.split l [124])).2 (by simpa using h) w hT cX
end Go.Proofs.YtlandmahjdaphaaDoor
