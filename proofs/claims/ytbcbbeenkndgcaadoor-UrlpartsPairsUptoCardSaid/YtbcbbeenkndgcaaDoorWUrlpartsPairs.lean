/-
  UrlpartsPairs: pairs come back from their query, as repaired. THE WALK.
-/
import Derived.Test.YtbcbbeenkndgcaaDoorQuery2
import Derived.Test.YtbcbbeenkndgcaaDoorQB
import Derived.Test.YtbcbbeenkndgcaaDoorAlive40
import Derived.Test.YtbcbbeenkndgcaaDoorRefUtf3
import Derived.Test.YtbcbbeenkndgcaaDoorLaidU8
namespace Go.Proofs.YtbcbbeenkndgcaaDoor
open Go.RowKit
set_option linter.unusedVariables false
set_option linter.unusedSimpArgs false

theorem attrCells_getP (xs : List Pair) (i : Nat) (p : Pair) (h : xs[i]? = some p) : (attrCells xs)[i * 2]? = some (.string ⟨p.1.toArray⟩) ∧ (attrCells xs)[i * 2 + 1]? = some (.string ⟨p.2.toArray⟩) := by
  induction xs generalizing i with
  | nil => simp at h
  | cons x xs ih =>
    have e : attrCells (x :: xs) = .string ⟨x.1.toArray⟩ :: .string ⟨x.2.toArray⟩ :: attrCells xs := rfl
    rw [e]
    match i with
    | 0 => simp at h; subst h; exact ⟨rfl, rfl⟩
    | i + 1 =>
      have := ih i (by simpa using h)
      have e2 : (i + 1) * 2 = i * 2 + 1 + 1 := by omega
      rw [e2]
      simpa using this
theorem own_cellP {w : World} {base n : Nat} {e : TypeId} {A : Option Addr} {m c : Nat} {xs : List Value} (h : w.ownsRow base e 2 (.slice A m c) n xs) (i : Nat) (hi : i < n) :
    ∃ g, A = some ⟨g, 0, none⟩ ∧ g < w.heap.size ∧ w.cell? ⟨g, i * 2, none⟩ = xs[i * 2]? ∧ w.cell? ⟨g, i * 2 + 1, none⟩ = xs[i * 2 + 1]? := by
  rcases h.2 with ⟨_, h0⟩ | ⟨g, cap, cur, hv, _, hg, hnc, _, hsz, ht⟩
  · omega
  · have hA := (Value.slice.inj hv).1
    refine ⟨g, hA, lt_of_heap hg, ?_, ?_⟩
    · have : w.cell? ⟨g, i * 2, none⟩ = cur[i * 2]? := by simp [World.cell?, hg]
      rw [this, ← ht, List.getElem?_take_of_lt (by omega), Array.getElem?_toList]
    · have : w.cell? ⟨g, i * 2 + 1, none⟩ = cur[i * 2 + 1]? := by simp [World.cell?, hg]
      rw [this, ← ht, List.getElem?_take_of_lt (by omega), Array.getElem?_toList]
theorem own_sliceP {w : World} {base n size : Nat} {e : TypeId} {v : Value} {xs : List Value} (h : w.ownsRow base e size v n xs) : ∃ A c, v = .slice A n c := by
  rcases h.2 with ⟨rfl, rfl⟩ | ⟨g, cap, cur, rfl, _⟩
  · exact ⟨_, _, rfl⟩
  · exact ⟨_, _, rfl⟩
set_option maxHeartbeats 8000000 in
set_option maxRecDepth 100000 in
theorem urlpartsPairs_walk (a0 : Option Addr) (c : Nat) (ps : List Pair) (w : World) (hz : sumP ps ≤ 1048576) (hA : ArgPairs w a0 ps) (hT : Lib.Utf8Tabs 3 4 w) :
    Calls Tryd.prog 9 #[.slice a0 ps.length c] w fun e w' => e = .returned (.bool true) ∧ Below w.heap.size w w' := by
  have cQ := fun w hA hT => query_any a0 c ps w hz hA hT
  have hql := queryB_len ps
  have cP := fun w => pairs_any (queryB ps) w (by omega)
  rw [pairs_back, List.length_map] at cP
  have hps := sumP_len ps
  have hmem := sumP_mem ps
  generalize queryB ps = q at cQ cP
  have cQ := hide cQ; have cP := hide cP; have hmem := hide hmem
  go_enter Tryd.func9, Tryd.ntmps9
  go_wp2_with fail
  refine (alive40 _).mono ?_
  rintro e w1 ⟨rfl, hb1⟩
  go_wp2_with fail
  refine (cQ.out _ (hA.below hb1) (Utf8Tabs_below hT hb1)).mono ?_
  rintro e w2 ⟨rfl, hb2⟩
  go_wp2_with fail
  refine (cP.out _).mono ?_
  rintro e w3 ⟨v, rfl, hown, hb3⟩
  obtain ⟨A1, c1, rfl⟩ := own_sliceP hown
  have hB3 := below_step (below_step hb1 hb2) hb3
  go_wp2_with fail
  go_loopw [4] (fun i wr => ∃ (k : Nat), i = .int .i64 (k : Int) ∧ k ≤ ps.length ∧ Below w3.heap.size w3 wr) (fun i _ => ps.length - (intOf i).toNat)
  case atStart => exact ⟨0, rfl, Nat.zero_le _, Below.refl _ _⟩
  case round =>
    obtain ⟨k, rfl, hk, hb⟩ := hrel
    have hBr := below_step hB3 hb
    by_cases hlt : k < ps.length
    · obtain ⟨p, hp⟩ : ∃ p, ps[k]? = some p := ⟨_, List.getElem?_eq_getElem hlt⟩
      have hpl := hmem.out p (List.mem_of_getElem? hp)
      obtain ⟨b, off, rfl, zb, x1, x2⟩ := (hA.below hBr) k p hp
      obtain ⟨g, rfl, zg, d1, d2⟩ := own_cellP (own_keepP hown hb) k (by simpa using hlt)
      obtain ⟨e1, e2⟩ := attrCells_getP (ps.map fun p => (repairR p.1, repairR p.2)) k (repairR p.1, repairR p.2) (by rw [List.getElem?_map, hp]; rfl)
      rw [e1] at d1
      rw [e2] at d2
      simp only at d1 d2
      have cR1 := fun w => refRepair_any p.1 w (by omega)
      have cR2 := fun w => refRepair_any p.2 w (by omega)
      obtain ⟨s1, hs1⟩ : ∃ x : ByteArray, (⟨p.1.toArray⟩ : ByteArray) = x := ⟨_, rfl⟩
      obtain ⟨s2, hs2⟩ : ∃ x : ByteArray, (⟨p.2.toArray⟩ : ByteArray) = x := ⟨_, rfl⟩
      rw [hs1] at x1 cR1
      rw [hs2] at x2 cR2
      generalize (⟨(repairR p.1).toArray⟩ : ByteArray) = r1 at d1 cR1
      generalize (⟨(repairR p.2).toArray⟩ : ByteArray) = r2 at d2 cR2
      have cR1 := hide cR1; have cR2 := hide cR2
      have hki : (k : Int) < (ps.length : Int) := by omega
      have hge : decide ((ps.length : Int) ≤ (k : Int)) = false := by simp; omega
      have hge2 : decide (ps.length ≤ k) = false := by simp; omega
      have hBl : Below wr.heap.size wr wr := Below.refl _ _
      have hAA := hide hA; have hOO := hide hown
      clear hs1 hs2 e1 e2 hp hA hown hpl
      go_wp2_with fail
      refine wp_region_below (W := wr) (by kernel_rfl) (by kernel_rfl) hBl ?_
      repeat (first
        | go_big_quiet_skip
        | (apply wpQuiet_one (by rfl)
           · intro w' hw'
             have hc := (bcell hw').1
             go_simp
             first
               | done
               | (go_at_call_of 19 (Value.string s1); exact Calls.below_of hw' (cR1.out _))
               | (go_at_call_of 19 (Value.string s2); exact Calls.below_of hw' (cR2.out _))
               | rfl
           · go_simp
             rfl))
      refine wpQuiet_nil ?_
      intro w' hw'
      go_wp2
      go_roundw
      case rel => exact ⟨k + 1, by go_num, by omega, hb.trans (hw'.mono hb.size)⟩
      case measure => simp [intOf]; omega
    · have hk2 : k = ps.length := by omega
      subst hk2
      have hge : decide ((ps.length : Int) < (ps.length : Int)) = false := by simp
      go_wp2_with fail
      go_ret
      exact ⟨rfl, hBr⟩
end Go.Proofs.YtbcbbeenkndgcaaDoor
