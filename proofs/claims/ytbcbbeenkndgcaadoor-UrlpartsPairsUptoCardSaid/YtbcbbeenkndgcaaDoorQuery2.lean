/-
  urlparts.Query: pairs as a query.
-/
import Derived.Test.YtbcbbeenkndgcaaDoorEncode
import Derived.Test.YtbcbbeenkndgcaaDoorPairSpec
import Derived.OwnWalk
import Derived.Deep.RegionLaw
import Derived.Deep.AppendLies
import Derived.Deep.RegionWith
namespace Go.Proofs.YtbcbbeenkndgcaaDoor
open Go.RowKit
set_option linter.unusedVariables false
set_option linter.unusedSimpArgs false

/-- A slice of pairs that was handed in: where its texts lie. -/
def ArgPairs (w : World) (a0 : Option Addr) (ps : List Pair) : Prop := ∀ (i : Nat) (p : Pair), ps[i]? = some p → ∃ b off, a0 = some ⟨b, off, none⟩ ∧ b < w.heap.size ∧ w.cell? ⟨b, off + i * 2, none⟩ = some (.string ⟨p.1.toArray⟩) ∧ w.cell? ⟨b, off + i * 2 + 1, none⟩ = some (.string ⟨p.2.toArray⟩)
theorem ArgPairs.below {w w' : World} {a0 : Option Addr} {ps : List Pair} (h : ArgPairs w a0 ps) (hb : Below w.heap.size w w') : ArgPairs w' a0 ps := by
  intro i p hp
  obtain ⟨b, off, ha, hlt, c1, c2⟩ := h i p hp
  exact ⟨b, off, ha, Nat.lt_of_lt_of_le hlt hb.size, (hb.cell (p := ⟨b, off + i * 2, none⟩) hlt).trans c1, (hb.cell (p := ⟨b, off + i * 2 + 1, none⟩) hlt).trans c2⟩
theorem info_strQ : (Tryd.prog.info? 9).map (fun i => (i.zero, i.size, i.bytes)) = some (some (.string ⟨#[]⟩), 1, 16) := by kernel_rfl
abbrev strV (xs : List (List UInt8)) : List Value := xs.map fun l => .string ⟨l.toArray⟩
theorem encode_B (l : List UInt8) (w : World) (hz : l.length ≤ 100000000) (hT : Lib.Utf8Tabs 3 4 w) :
    Calls Tryd.prog 16 #[.string ⟨l.toArray⟩] w fun e w' => e = .returned (.string ⟨(encB l).toArray⟩) ∧ Below w.heap.size w w' := encode_any l w hz hT
set_option maxHeartbeats 4000000 in
set_option maxRecDepth 100000 in
theorem query_any (a0 : Option Addr) (c : Nat) (ps : List Pair) (w : World) (hz : sumP ps ≤ 1048576) (hA : ArgPairs w a0 ps) (hT : Lib.Utf8Tabs 3 4 w) :
    Calls Tryd.prog 35 #[.slice a0 ps.length c] w fun e w' => e = .returned (.string ⟨(queryB ps).toArray⟩) ∧ Below w.heap.size w w' := by
  obtain ⟨i0, hi, hz0, hz1, hz2⟩ := info_parts info_strQ
  have hps := sumP_len ps
  have hqz := queryB_len ps
  go_enter Tryd.func35, Tryd.ntmps35
  go_wp2_with (at_make; refine wpList_make_own _ rfl _ _ 43 rfl w.heap.size 9 i0 (.string ⟨#[]⟩) 1 Tryd.underlying43 hi hz0 hz1 .i64 .i64 _ ps.length rfl rfl rfl (by rw [hz2]; omega) (by unfold maxLen; omega) (Nat.le_refl _) ?_; intro w0 hown0 hgrow0)
  have hB0 : Below w.heap.size w w0 := (Below.refl _ w).grown hgrow0 (Nat.le_refl _) (fun k e => by cases e)
  go_loopw [3, 11] (fun o i wr => ∃ (k : Nat) (A0 : Option Addr) (cp : Nat), o = .slice A0 k cp ∧ i = .int .i64 (k : Int) ∧ k ≤ ps.length ∧ wr.ownsRow w.heap.size 9 1 (.slice A0 k cp) k (strV ((ps.take k).map pieceB)) ∧ Below w.heap.size w wr) (fun _ i _ => ps.length - (intOf i).toNat)
  case atStart => exact ⟨0, _, _, rfl, rfl, Nat.zero_le _, hown0, hB0⟩
  case round =>
    obtain ⟨k, A0, cp, rfl, rfl, hk, hown, hb⟩ := hrel
    have hbz := hb.size
    by_cases hlt : k < ps.length
    · obtain ⟨p, hp⟩ : ∃ p, ps[k]? = some p := ⟨_, List.getElem?_eq_getElem hlt⟩
      have hmem := List.mem_of_getElem? hp
      have hpl := sumP_mem ps p hmem
      obtain ⟨b, off, rfl, hbl, c1, c2⟩ := (hA.below hb) k p hp
      have hnx := hide (show strV ((ps.take k).map pieceB) ++ [.string ⟨(pieceB p).toArray⟩] = strV ((ps.take (k + 1)).map pieceB) by
        rw [List.take_add_one, hp]; simp)
      have hpc : pieceB p = encB p.1 ++ 61 :: encB p.2 := rfl
      have cE1 := fun w hT => encode_B p.1 w (by omega) hT
      have cE2 := fun w hT => encode_B p.2 w (by omega) hT
      obtain ⟨x1, hx1⟩ : ∃ x : ByteArray, (⟨p.1.toArray⟩ : ByteArray) = x := ⟨_, rfl⟩
      obtain ⟨x2, hx2⟩ : ∃ x : ByteArray, (⟨p.2.toArray⟩ : ByteArray) = x := ⟨_, rfl⟩
      rw [hx1] at c1 cE1
      rw [hx2] at c2 cE2
      have he1 := encB_len p.1
      have he2 := encB_len p.2
      have hpb : (⟨(encB p.1).toArray⟩ : ByteArray) ++ ⟨#[61]⟩ ++ ⟨(encB p.2).toArray⟩ = ⟨(pieceB p).toArray⟩ := by
        rw [hpc]; apply ByteArray.ext; simp
      generalize encB p.1 = y1 at cE1 he1 hpb
      generalize encB p.2 = y2 at cE2 he2 hpb
      have cE1 := hide cE1; have cE2 := hide cE2
      have hki : (k : Int) < (ps.length : Int) := by omega
      have hTr := Utf8Tabs_below hT hb
      clear hmem hx1 hx2 hpc hp
      have HPB := hide hpb
      clear hpb
      have hK := Blk.new wr 38 #[.string x1, .string x2]
      have hownW := hown.alloc (.cells #[.string x1, .string x2] 38)
      have hbW := hb.alloc hbz (.cells #[.string x1, .string x2] 38)
      have hTW := Utf8Tabs_below hTr ((Below.refl wr.heap.size wr).alloc (Nat.le_refl _) (.cells #[.string x1, .string x2] 38))
      go_wp2_with fail
      generalize wr.alloc (.cells #[.string x1, .string x2] 38) = W at hK hownW hbW hTW ⊢
      have cE1' := hide (fun W' (h : Below W.heap.size W W') => cE1.out W' (Utf8Tabs_below hTW h))
      have cE2' := hide (fun W' (h : Below W.heap.size W W') => cE2.out W' (Utf8Tabs_below hTW h))
      have zK := hK.lt
      have k0 := hK.cell 0; have k1 := hK.cell 1
      simp at k0 k1
      have hWz := hbW.size
      have n1 : ¬ (9223372036854775807 < y1.length + 1) := by omega
      have n2 : ¬ (9223372036854775807 < y1.length + 1 + y2.length) := by omega
      clear hown hb hTr hTW cE1 cE2
      go_region_law (first
        | (refine step_append_lies _ rfl (.tmp 15) (.tmp 24) 43 rfl w.heap.size 9 i0 (.string ⟨#[]⟩) 1 16 Tryd.underlying43 hi hz0 hz1 hz2 rfl (by decide) (.slice A0 k cp) k _ (by simp [Act.eval, Act.put]) (hownQ.alloc _) ⟨wQ.heap.size, 0, none⟩ 1 1 [.string (⟨y1.toArray⟩ ++ ⟨#[61]⟩ ++ ⟨y2.toArray⟩)] (by simp [Act.eval, Act.put]) rfl (by intro t u ht; match t, ht with | 0, ht => simp at ht; subst ht; simp [Addr.add]) (by intro u hu; simp at hu; subst hu; rfl) (by omega) (by unfold maxLen; omega) (by omega) (by simp; omega) _ rfl ?_; intro g4 cp4 w4 hown4 hgrow4 hat4 hlt4)
        | (go_simp; go_at_call_of 16 (Value.string x1); refine (cE1'.out _ (Below.refl _ _).drew).mono ?_; rintro e wP ⟨rfl, hbP⟩; have hBP := (Below.refl W.heap.size W).drew.trans hbP; have d1 := (hbP.cell (p := ⟨wr.heap.size, 1, none⟩) zK).trans k1)
        | (go_simp; go_at_call_of 16 (Value.string x2); refine (cE2'.out _ hBP).mono ?_; rintro e wQ ⟨rfl, hbQ⟩; have hBQ := hBP.trans (hbQ.mono hBP.size); have hownQ := own_keepP hownW hBQ; have hbwQ := hbW.trans (hBQ.mono hWz); have hQz := hbwQ.size))
      all_goals
        rw [HPB.out, hnx.out] at hown4
        have hbF := (hbwQ.alloc hQz (.cells #[.string (⟨y1.toArray⟩ ++ ⟨#[61]⟩ ++ ⟨y2.toArray⟩)] 9)).grown hgrow4 (by simp; omega) (fun j hj => (hownQ.lt j hj).1)
        go_wp2_with fail
        go_roundw
        case rel => exact ⟨k + 1, some ⟨g4, 0, none⟩, cp4, rfl, by go_num, by omega, hown4, hbF⟩
        case measure => simp [intOf]; omega
    · have hk2 : k = ps.length := by omega
      subst hk2
      have hge : decide ((ps.length : Int) < (ps.length : Int)) = false := by simp
      rw [List.take_length] at hown
      have hm : ((ps.map fun p => (⟨(pieceB p).toArray⟩ : ByteArray)).map (·.data.toList)) = ps.map pieceB := by simp
      have cJ : Calls Tryd.prog 72 #[.slice A0 ps.length cp, .string ⟨#[38]⟩] wr fun e w' => e = .returned (.string ⟨(queryB ps).toArray⟩) ∧ Below wr.heap.size wr w' := by
        by_cases h0 : ps.length = 0
        · obtain rfl : ps = [] := List.length_eq_zero_iff.1 h0
          refine (Tryd.strings_Join_none A0 cp ⟨#[38]⟩ wr).mono ?_
          rintro e w' ⟨rfl, rfl⟩
          exact ⟨rfl, Below.refl _ _⟩
        · obtain ⟨g, hA0, hglt, hncp⟩ : ∃ g, A0 = some ⟨g, 0, none⟩ ∧ g < wr.heap.size ∧ ps.length ≤ cp := by
            rcases hown.2 with ⟨hv, hn⟩ | ⟨g, cap, cur, hv, hBg, hg, hnc, _⟩
            · exact absurd hn h0
            · injection hv with hv1 hv2 hv3
              subst hv3
              exact ⟨g, hv1, lt_of_heap hg, hnc⟩
          subst hA0
          have cJ := Tryd.strings_Join g 0 cp (ps.map fun p => ⟨(pieceB p).toArray⟩) ⟨#[38]⟩ wr (by
            intro j x hx
            have := hown.cells (g := g) rfl j (.string x) (by
              rw [List.getElem?_map] at hx
              obtain ⟨p, hp, rfl⟩ := Option.map_eq_some_iff.1 hx
              simp [hp])
            have ha : (⟨g, 0, none⟩ : Addr).add j = ⟨g, 0 + j, none⟩ := by unfold Addr.add; split <;> simp_all
            rw [ha] at this
            simpa using this) hglt (by simp; omega) (by simp; omega) (by
            rw [hm]
            show (queryB ps).length ≤ _
            omega)
          rw [hm, List.length_map] at cJ
          exact cJ
      have cJ := hide cJ
      go_wp2_with fail
      refine (cJ.out).mono ?_
      rintro e w1 ⟨rfl, hb1⟩
      go_wp2_with fail
      go_ret
      exact ⟨rfl, hb.trans (hb1.mono hbz)⟩
end Go.Proofs.YtbcbbeenkndgcaaDoor
