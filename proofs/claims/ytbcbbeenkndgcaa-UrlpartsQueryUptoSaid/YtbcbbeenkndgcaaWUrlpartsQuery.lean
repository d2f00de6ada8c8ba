/-
  UrlpartsQuery: an encoded text put to a query turns no other part, and no other pair; put to a path or a fragment it turns no scheme, host, query. THE WALK.
-/
import Derived.Test.YtbcbbeenkndgcaaQueryHq
namespace Go.Proofs.Ytbcbbeenkndgcaa
open Go.RowKit
set_option linter.unusedVariables false
set_option linter.unusedSimpArgs false

set_option maxHeartbeats 8000000 in
set_option maxRecDepth 100000 in
theorem urlpartsQuery_walk (a0 : ByteArray) (s0 : a0.size ≤ 1048576) (a1 : ByteArray) (s1 : a1.size ≤ 1048576) (w : World) :
    Calls Try.prog 6 #[.string a0, .string a1] w fun e w' => e = .returned (.bool true) ∧ Below w.heap.size w w' := by
  obtain ⟨a, rfl⟩ : ∃ l : List UInt8, a0 = ⟨l.toArray⟩ := ⟨a0.data.toList, rfl⟩
  obtain ⟨s, rfl⟩ : ∃ l : List UInt8, a1 = ⟨l.toArray⟩ := ⟨a1.data.toList, rfl⟩
  rw [mk_size] at s0 s1
  have cP := hide (fun w => refPercent_any s false w (by omega))
  have hpl := pctR_len false (repairR s)
  have hrl := repairR_len s
  have hcalm := pct_calm (repairR s)
  generalize pctR false (repairR s) = x at cP hpl hcalm
  have hxl : x.length ≤ 12582912 := by omega
  have cS1 := hide (fun w => split_any a w (by omega))
  have cS2 := fun w => split_any (a ++ x) w (by simp; omega)
  rw [splitB_app a x (fun h => (hcalm 35 h).1 rfl) (fun h => (hcalm 63 h).2.1 rfl) (fun h => (hcalm 47 h).2.2.1 rfl) (fun h => (hcalm 58 h).2.2.2.1 rfl)] at cS2
  rw [← mk_append] at cS2
  have hsz := splitB_size a
  generalize splitB a = u at cS1 cS2 hsz
  have h38 : 38 ∉ x := fun h => (hcalm 38 h).2.2.2.2 rfl
  clear hpl hrl hcalm
  obtain ⟨sc, ho, pa, qu, fr, hs, hh, hq, hf⟩ := u
  simp only [UrlV.size] at hsz
  cases hf
  rotate_left
  · have e : addX ⟨sc, ho, pa, qu, fr, hs, hh, hq, true⟩ x = ⟨sc, ho, pa, qu, fr ++ x, hs, hh, hq, true⟩ := rfl
    rw [e] at cS2
    clear e
    simp only [UrlV.cells, ← mk_append] at cS1 cS2
    have cS2 := hide cS2
    go_enter Try.func6, Try.ntmps6
    go_wp2_with fail
    refine (alive40 _).mono ?_
    rintro e w1 ⟨rfl, hb1⟩
    go_wp2_with fail
    refine (cP.out _).mono ?_
    rintro e w2 ⟨rfl, hb2⟩
    go_wp2_with fail
    refine (cS1.out _).mono ?_
    rintro e w3 ⟨rfl, hb3⟩
    go_wp2_with fail
    refine (cS2.out _).mono ?_
    rintro e w4 ⟨rfl, hb4⟩
    have hB4 := below_step (below_step (below_step hb1 hb2) hb3) hb4
    have hz4 := hB4.size
    clear hb1 hb2 hb3 hb4
    go_wp2_with fail
    go_ret
    exact ⟨rfl, by first | exact (hB4.alloc hz4 _).alloc (by simp; omega) _ | exact ((hB4.alloc hz4 _).alloc (by simp; omega) _).setCell (p := ⟨w4.heap.size, _, none⟩) (by simp; omega) _⟩
  cases hq
  rotate_left
  · exact query_hq a s x sc ho pa qu fr hs hh w s0 s1 hxl hsz h38 cP cS1 cS2
  cases hh
  · have e : addX ⟨sc, ho, pa, qu, fr, hs, false, false, false⟩ x = ⟨sc, ho, pa ++ x, qu, fr, hs, false, false, false⟩ := rfl
    rw [e] at cS2
    clear e
    simp only [UrlV.cells, ← mk_append] at cS1 cS2
    have cS2 := hide cS2
    go_enter Try.func6, Try.ntmps6
    go_wp2_with fail
    refine (alive40 _).mono ?_
    rintro e w1 ⟨rfl, hb1⟩
    go_wp2_with fail
    refine (cP.out _).mono ?_
    rintro e w2 ⟨rfl, hb2⟩
    go_wp2_with fail
    refine (cS1.out _).mono ?_
    rintro e w3 ⟨rfl, hb3⟩
    go_wp2_with fail
    refine (cS2.out _).mono ?_
    rintro e w4 ⟨rfl, hb4⟩
    have hB4 := below_step (below_step (below_step hb1 hb2) hb3) hb4
    have hz4 := hB4.size
    clear hb1 hb2 hb3 hb4
    go_wp2_with fail
    go_ret
    exact ⟨rfl, by first | exact (hB4.alloc hz4 _).alloc (by simp; omega) _ | exact ((hB4.alloc hz4 _).alloc (by simp; omega) _).setCell (p := ⟨w4.heap.size, _, none⟩) (by simp; omega) _⟩
  by_cases hpa : pa = []
  · subst hpa
    have e : addX ⟨sc, ho, [], qu, fr, hs, true, false, false⟩ x = ⟨sc, ho ++ x, [], qu, fr, hs, true, false, false⟩ := rfl
    rw [e] at cS2
    clear e
    simp only [UrlV.cells, ← mk_append] at cS1 cS2
    have cS2 := hide cS2
    go_enter Try.func6, Try.ntmps6
    go_wp2_with fail
    refine (alive40 _).mono ?_
    rintro e w1 ⟨rfl, hb1⟩
    go_wp2_with fail
    refine (cP.out _).mono ?_
    rintro e w2 ⟨rfl, hb2⟩
    go_wp2_with fail
    refine (cS1.out _).mono ?_
    rintro e w3 ⟨rfl, hb3⟩
    go_wp2_with fail
    refine (cS2.out _).mono ?_
    rintro e w4 ⟨rfl, hb4⟩
    have hB4 := below_step (below_step (below_step hb1 hb2) hb3) hb4
    have hz4 := hB4.size
    clear hb1 hb2 hb3 hb4
    go_wp2_with fail
    go_ret
    exact ⟨rfl, by first | exact (hB4.alloc hz4 _).alloc (by simp; omega) _ | exact ((hB4.alloc hz4 _).alloc (by simp; omega) _).setCell (p := ⟨w4.heap.size, _, none⟩) (by simp; omega) _⟩
  · have hpe : pa.isEmpty = false := by simpa using hpa
    have e : addX ⟨sc, ho, pa, qu, fr, hs, true, false, false⟩ x = ⟨sc, ho, pa ++ x, qu, fr, hs, true, false, false⟩ := by simp [addX, hpa]
    rw [e] at cS2
    clear e
    simp only [UrlV.cells, ← mk_append] at cS1 cS2
    have cS2 := hide cS2
    go_enter Try.func6, Try.ntmps6
    go_wp2_with fail
    refine (alive40 _).mono ?_
    rintro e w1 ⟨rfl, hb1⟩
    go_wp2_with fail
    refine (cP.out _).mono ?_
    rintro e w2 ⟨rfl, hb2⟩
    go_wp2_with fail
    refine (cS1.out _).mono ?_
    rintro e w3 ⟨rfl, hb3⟩
    go_wp2_with fail
    refine (cS2.out _).mono ?_
    rintro e w4 ⟨rfl, hb4⟩
    have hB4 := below_step (below_step (below_step hb1 hb2) hb3) hb4
    have hz4 := hB4.size
    clear hb1 hb2 hb3 hb4
    clear hpa
    go_wp2_with fail
    go_ret
    exact ⟨rfl, by first | exact (hB4.alloc hz4 _).alloc (by simp; omega) _ | exact ((hB4.alloc hz4 _).alloc (by simp; omega) _).setCell (p := ⟨w4.heap.size, _, none⟩) (by simp; omega) _⟩
end Go.Proofs.Ytbcbbeenkndgcaa
