/-
  UrlpartsQuery, where there is a query.
-/
import Derived.Test.YtbcbbeenkndgcaaAlive40
import Derived.Test.YtbcbbeenkndgcaaRefPct
import Derived.Test.YtbcbbeenkndgcaaQuerySpec
import Derived.Test.YtbcbbeenkndgcaaStr
import Derived.Laws.StructEq
import Derived.Deep.RegionWith
namespace Go.Proofs.Ytbcbbeenkndgcaa
open Go.RowKit
set_option linter.unusedVariables false
set_option linter.unusedSimpArgs false

/-- Two URLs of the same parts, as the program compares them. -/
@[go_sem high] theorem eqUrl_self (s1 s2 s3 s4 s5 : ByteArray) (b1 b2 b3 b4 : Bool) (w : World) :
    (Op.equalIn 10000 23 (.agg #[.string s1, .string s2, .string s3, .string s4, .string s5, .bool b1, .bool b2, .bool b3, .bool b4]) (.agg #[.string s1, .string s2, .string s3, .string s4, .string s5, .bool b1, .bool b2, .bool b3, .bool b4])).run Try.prog w = .ok true w := by
  have hS : Try.prog.underlying 23 = some (.struct (Try.prog.fieldsOf 23)) := by kernel_rfl
  have hp : Try.prog.stoodInHeld 23 = false := by kernel_rfl
  rw [show (10000 : Nat) = 9999 + 1 from rfl, run_equalIn_agg w 9999 23 _ _ hS hp]
  simp only [Program.fieldsOf, Try.underlying23]
  go_simp
theorem own_slice {w : World} {base n size : Nat} {e : TypeId} {v : Value} {xs : List Value} (h : w.ownsRow base e size v n xs) : ∃ A c, v = .slice A n c := by
  rcases h.2 with ⟨rfl, rfl⟩ | ⟨g, cap, cur, rfl, _⟩
  · exact ⟨_, _, rfl⟩
  · exact ⟨_, _, rfl⟩
theorem pairsLen_any (q : List UInt8) (w : World) (hz : q.length ≤ 100000000) :
    Calls Try.prog 13 #[.string ⟨q.toArray⟩] w fun e w' => ∃ A c, e = .returned (.slice A (pairsP q).length c) ∧ Below w.heap.size w w' :=
  (pairs_any q w hz).mono fun e w' ⟨v, he, ho, hb⟩ => by
    obtain ⟨A, c, rfl⟩ := own_slice ho
    exact ⟨A, c, he, hb⟩
set_option maxHeartbeats 4000000 in
set_option maxRecDepth 100000 in
theorem query_hq (a s x sc ho pa qu fr : List UInt8) (hs hh : Bool) (w : World) (s0 : a.length ≤ 1048576) (s1 : s.length ≤ 1048576) (hxl : x.length ≤ 12582912)
    (hsz : sc.length + ho.length + pa.length + qu.length + fr.length ≤ a.length) (h38 : 38 ∉ x)
    (cP : Hid (∀ w, Calls Try.prog 17 #[.string ⟨s.toArray⟩, .bool false] w fun e w' => e = .returned (.string ⟨x.toArray⟩) ∧ Below w.heap.size w w'))
    (cS1 : Hid (∀ w, Calls Try.prog 7 #[.string ⟨a.toArray⟩] w fun e w' => e = .returned (.agg (UrlV.cells ⟨sc, ho, pa, qu, fr, hs, hh, true, false⟩)) ∧ Below w.heap.size w w'))
    (cS2 : ∀ w, Calls Try.prog 7 #[.string (⟨a.toArray⟩ ++ ⟨x.toArray⟩)] w fun e w' => e = .returned (.agg (UrlV.cells (addX ⟨sc, ho, pa, qu, fr, hs, hh, true, false⟩ x))) ∧ Below w.heap.size w w') :
    Calls Try.prog 6 #[.string ⟨a.toArray⟩, .string ⟨s.toArray⟩] w fun e w' => e = .returned (.bool true) ∧ Below w.heap.size w w' := by
  have hlen : qu ≠ [] → (pairsP (qu ++ x)).length = (pairsP qu).length := pairsP_app x qu h38
  have cQ1 := hide (fun w => pairsLen_any qu w (by omega))
  have cQ2 := hide (fun w => pairsLen_any (qu ++ x) w (by simp; omega))
  rw [← mk_append] at cQ2
  generalize (pairsP qu).length = n1 at cQ1 hlen
  generalize (pairsP (qu ++ x)).length = n2 at cQ2 hlen
  have e : addX ⟨sc, ho, pa, qu, fr, hs, hh, true, false⟩ x = ⟨sc, ho, pa, qu ++ x, fr, hs, hh, true, false⟩ := rfl
  rw [e] at cS2
  clear e
  simp only [UrlV.cells, ← mk_append] at cS1 cS2
  obtain ⟨qb, hqb⟩ : ∃ b : ByteArray, (⟨qu.toArray⟩ : ByteArray) = b := ⟨_, rfl⟩
  have hq0 : qu = [] → qb.toList.isEmpty = true := fun h => by rw [← hqb, h]; simp [ByteArray.toList_eq]
  have hqs : qb.size ≤ 1048576 := by rw [← hqb, mk_size]; omega
  have hqs2 : (qb.size : Int) ≤ 1048576 := by omega
  rw [hqb] at cS1 cS2 cQ1 cQ2
  obtain ⟨qx, hqx⟩ : ∃ b : ByteArray, qb ++ (⟨x.toArray⟩ : ByteArray) = b := ⟨_, rfl⟩
  rw [hqx] at cS2 cQ2
  clear hqb
  have HQX := hide hqx
  clear hqx
  have cS2 := hide cS2
  go_enter Try.func6, Try.ntmps6
  go_wp2_with fail
  refine (alive40 _).mono ?_
  rintro e w1 ⟨rfl, hb1⟩
  go_wp2_with fail
  refine (cP.out _).mono ?_
  rintro e w2 ⟨rfl, hb2⟩
  go_wp2_with fail
  refine (cS1.out _).mono ?_
  rintro e w3 ⟨rfl, hb3⟩
  go_wp2_with fail
  refine (cS2.out _).mono ?_
  rintro e w4 ⟨rfl, hb4⟩
  have hB4 := below_step (below_step (below_step hb1 hb2) hb3) hb4
  have hz4 := hB4.size
  clear hb1 hb2 hb3 hb4
  have hU : Blk ((w4.alloc (.cells #[.string ⟨sc.toArray⟩, .string ⟨ho.toArray⟩, .string ⟨pa.toArray⟩, .string qb, .string ⟨fr.toArray⟩, .bool hs, .bool hh, .bool true, .bool false] 23)).alloc (.cells #[.string ⟨sc.toArray⟩, .string ⟨ho.toArray⟩, .string ⟨pa.toArray⟩, .string qx, .string ⟨fr.toArray⟩, .bool hs, .bool hh, .bool true, .bool false] 23)) w4.heap.size 23 #[.string ⟨sc.toArray⟩, .string ⟨ho.toArray⟩, .string ⟨pa.toArray⟩, .string qb, .string ⟨fr.toArray⟩, .bool hs, .bool hh, .bool true, .bool false] := (Blk.new _ _ _).alloc _
  have hV : Blk ((w4.alloc (.cells #[.string ⟨sc.toArray⟩, .string ⟨ho.toArray⟩, .string ⟨pa.toArray⟩, .string qb, .string ⟨fr.toArray⟩, .bool hs, .bool hh, .bool true, .bool false] 23)).alloc (.cells #[.string ⟨sc.toArray⟩, .string ⟨ho.toArray⟩, .string ⟨pa.toArray⟩, .string qx, .string ⟨fr.toArray⟩, .bool hs, .bool hh, .bool true, .bool false] 23)) (w4.heap.size + 1) 23 #[.string ⟨sc.toArray⟩, .string ⟨ho.toArray⟩, .string ⟨pa.toArray⟩, .string qx, .string ⟨fr.toArray⟩, .bool hs, .bool hh, .bool true, .bool false] := by
    have := Blk.new (w4.alloc (.cells #[.string ⟨sc.toArray⟩, .string ⟨ho.toArray⟩, .string ⟨pa.toArray⟩, .string qb, .string ⟨fr.toArray⟩, .bool hs, .bool hh, .bool true, .bool false] 23)) 23 #[.string ⟨sc.toArray⟩, .string ⟨ho.toArray⟩, .string ⟨pa.toArray⟩, .string qx, .string ⟨fr.toArray⟩, .bool hs, .bool hh, .bool true, .bool false]
    simpa using this
  have hBW := (hB4.alloc hz4 (.cells #[.string ⟨sc.toArray⟩, .string ⟨ho.toArray⟩, .string ⟨pa.toArray⟩, .string qb, .string ⟨fr.toArray⟩, .bool hs, .bool hh, .bool true, .bool false] 23)).alloc (by simp; omega) (.cells #[.string ⟨sc.toArray⟩, .string ⟨ho.toArray⟩, .string ⟨pa.toArray⟩, .string qx, .string ⟨fr.toArray⟩, .bool hs, .bool hh, .bool true, .bool false] 23)
  have HQ : Hid (qu = [] ∨ n2 = n1) := by
    show _ ∨ _
    by_cases h : qu = []
    · exact .inl h
    · exact .inr (hlen h)
  clear hlen
  go_wp2_with fail
  generalize hW : (w4.alloc (.cells #[.string ⟨sc.toArray⟩, .string ⟨ho.toArray⟩, .string ⟨pa.toArray⟩, .string qb, .string ⟨fr.toArray⟩, .bool hs, .bool hh, .bool true, .bool false] 23)).alloc (.cells #[.string ⟨sc.toArray⟩, .string ⟨ho.toArray⟩, .string ⟨pa.toArray⟩, .string qx, .string ⟨fr.toArray⟩, .bool hs, .bool hh, .bool true, .bool false] 23) = W at hU hV hBW ⊢
  have zU := hU.lt; have zV := hV.lt
  have c3 := hU.cell 3; have d3 := hV.cell 3
  simp at c3 d3
  clear hW
  go_region_with (first
    | (go_at_call_of 13 (Value.string qx); refine (cQ2.out _).mono ?_; rintro e wQ ⟨A2, k2, rfl, hbQ⟩)
    | (go_at_call_of 13 (Value.string qb); refine (cQ1.out _).mono ?_; rintro e wP ⟨A1, k1, rfl, hbP⟩; have d3P := (hbP.cell (p := ⟨w4.heap.size + 1, 3, none⟩) zV).trans d3; have hzP := hbP.size))
  all_goals
    have hBB : Below W.heap.size W wQ := ((Below.refl _ W).drew.trans hbP).trans (hbQ.mono (by have := hbP.size; simpa using this))
    have hU2 := hU.below hBB zU
    have hV2 := hV.below hBB zV
    have hB2 := hBW.trans (hBB.mono hBW.size)
    clear d3P hzP c3 d3 hBB hbP hbQ hU hV hBW zU zV
    obtain ⟨g0, g1, g2, g3, g4, g5, g6, g7, g8⟩ := hU2.nine
    obtain ⟨k0, k1', k2', k3, k4, k5, k6, k7, k8⟩ := hV2.nine
    have f3 := hU2.frozen 3
    have hz2 := hU2.lt
    clear hU2 hV2
    have hqx := HQX.out
    have hcase : qb.toList.isEmpty = true ∨ n2 = n1 := HQ.out.imp hq0 id
    clear hq0
    rcases hcase with hq1 | hq1
    · go_wp2_with fail
      go_ret
      exact ⟨rfl, hB2.setCell (p := ⟨w4.heap.size, 3, none⟩) hz4 _⟩
    · subst hq1
      rcases Bool.eq_false_or_eq_true qb.toList.isEmpty with hq1 | hq1
      · go_wp2_with fail
        go_ret
        exact ⟨rfl, hB2.setCell (p := ⟨w4.heap.size, 3, none⟩) hz4 _⟩
      · go_wp2_with fail
        go_ret
        exact ⟨rfl, hB2.setCell (p := ⟨w4.heap.size, 3, none⟩) hz4 _⟩
end Go.Proofs.Ytbcbbeenkndgcaa
