/-
  jsscan.Hole; muslinlaw38.apart.
-/
import Derived.Test.YtdnmgpidfjkiaaaDoorLexH
import Derived.Test.YtdnmgpidfjkiaaaDoorHoleLink
namespace Go.Proofs.YtdnmgpidfjkiaaaDoor
open Go.RowKit
set_option linter.unusedVariables false
set_option linter.unusedSimpArgs false

set_option maxHeartbeats 1000000 in
theorem hole_code (p : Nat) (word : ByteArray) (w : World) (hp : p = 0 ∨ p = 1) : Calls Tryd.prog 25 #[.int .i64 (p : Int), .string word] w fun e w' => e = .returned (.tuple #[.int .i64 1, .int .i64 1]) ∧ w = w' := by
  rcases hp with rfl | rfl
  · go_enter Tryd.func25, Tryd.ntmps25
    go_wp2_with fail
    go_ret2
    exact ⟨rfl, rfl⟩
  · go_enter Tryd.func25, Tryd.ntmps25
    go_wp2_with fail
    go_ret2
    exact ⟨rfl, rfl⟩
set_option maxHeartbeats 1000000 in
theorem hole_text (p : Nat) (word : ByteArray) (w : World) (hp : p = 2 ∨ p = 3) : Calls Tryd.prog 25 #[.int .i64 (p : Int), .string word] w fun e w' => e = .returned (.tuple #[.int .i64 (p : Int), .int .i64 2]) ∧ w = w' := by
  rcases hp with rfl | rfl
  · go_enter Tryd.func25, Tryd.ntmps25
    go_wp2_with fail
    go_ret2
    exact ⟨rfl, rfl⟩
  · go_enter Tryd.func25, Tryd.ntmps25
    go_wp2_with fail
    go_ret2
    exact ⟨rfl, rfl⟩
set_option maxHeartbeats 1000000 in
theorem hole_none (p : Nat) (word : ByteArray) (w : World) (hp : 4 ≤ p) : Calls Tryd.prog 25 #[.int .i64 (p : Int), .string word] w fun e w' => e = .returned (.tuple #[.int .i64 (p : Int), .int .i64 0]) ∧ w = w' := by
  have h0 : ((p : Int) == 0) = false := by simp; omega
  have h1 : ((p : Int) == 1) = false := by simp; omega
  have h2 : ((p : Int) == 2) = false := by simp; omega
  have h3 : ((p : Int) == 3) = false := by simp; omega
  go_enter Tryd.func25, Tryd.ntmps25
  go_wp2_with fail
  go_ret2
  exact ⟨rfl, rfl⟩
theorem toL_eqH (s t : List UInt8) : ((⟨s.toArray⟩ : ByteArray).toList == (⟨t.toArray⟩ : ByteArray).toList) = (s == t) := by
  rw [ByteArray.toList_eq, ByteArray.toList_eq]
theorem told_err {s : List UInt8} {P : List Pc} {n e : Int} (h : Told s P n e) : e = 0 ∨ e = 3 ∨ e = 5 ∨ e = 33 := by
  rcases h with ⟨_, _, _, rfl⟩ | ⟨_, _, _, rfl⟩ | ⟨_, _, a, c, R, k, zz, _, _, _, _, _, h⟩
  · simp
  · simp
  · rcases h with ⟨_, rfl⟩ | ⟨_, _, rfl⟩ <;> simp
set_option maxHeartbeats 2000000 in
set_option maxRecDepth 100000 in
theorem apart_any (P Q : List Pc) (u v : Value) (b1 b2 : Nat) (w : World) (hP : w.ownsRow b1 44 3 u P.length (pcCells P)) (hQ : w.ownsRow b2 44 3 v Q.length (pcCells Q)) (hz : P.length ≤ 4096) (h1 : OneOff (P.map kt) (Q.map kt)) :
    Calls Tryd.prog 27 #[u, v] w fun e w' => ∃ r : Nat, e = .returned (.int .i64 (r : Int)) ∧ r ≤ 1 ∧ Below w.heap.size w w' := by
  obtain ⟨hl, cnt, c0, c1, c2⟩ := oneOff_count h1
  rw [List.length_map, List.length_map] at hl
  obtain ⟨A1, p1, rfl⟩ := own_sliceL hP
  obtain ⟨A2, p2, rfl⟩ := own_sliceL hQ
  obtain ⟨n, hn⟩ : ∃ n, P.length = n := ⟨_, rfl⟩
  have hn2 : Q.length = n := by omega
  rw [hn] at hP hz ⊢
  rw [hn2] at hQ ⊢
  have HP := hide hP; have HQ := hide hQ; have HN := hide hn; have HN2 := hide hn2; have C1 := hide c1; have C2 := hide c2; have C0 := hide c0
  clear hP hQ hn hn2 c1 c2 h1 hl c0
  go_enter Tryd.func27, Tryd.ntmps27
  go_wp2_with fail
  go_loopw [5, 6] (fun nv i wr => ∃ j : Nat, i = .int .i64 (j : Int) ∧ nv = .int .i64 ((cnt j : Nat) : Int) ∧ j ≤ n ∧ Below w.heap.size w wr) (fun _ i _ => n - (intOf i).toNat)
  case atStart => exact ⟨0, rfl, by rw [C0.out]; rfl, Nat.zero_le _, by first | exact Below.refl _ _ | exact below_drewN (Below.refl _ _) _⟩
  case round =>
    obtain ⟨j, rfl, rfl, hj, hb⟩ := hrel
    by_cases hjl : j < n
    · obtain ⟨p, hp⟩ : ∃ p, P[j]? = some p := ⟨_, List.getElem?_eq_getElem (by have := HN.out; omega)⟩
      obtain ⟨q, hq⟩ : ∃ q, Q[j]? = some q := ⟨_, List.getElem?_eq_getElem (by have := HN2.out; omega)⟩
      obtain ⟨g1, k1, he, hg1, d0, d1, _⟩ := own_pc (by have := HP.out; rw [← HN.out] at this; exact this) j p hp
      obtain ⟨g2, k2, he2, hg2, f0, f1, _⟩ := own_pc (by have := HQ.out; rw [← HN2.out] at this; exact this) j q hq
      injection he with he1 _ he3
      injection he2 with hf1 _ hf3
      subst he1; subst he3; subst hf1; subst hf3
      obtain ⟨hk, hc⟩ := C1.out j (kt p) (kt q) (by rw [List.getElem?_map, hp]; rfl) (by rw [List.getElem?_map, hq]; rfl)
      have hc1 := C2.out j
      have hc2 := C2.out (j + 1)
      obtain ⟨pk, pt, pp⟩ := p
      obtain ⟨qk, qt, qp⟩ := q
      simp only [kt] at hk hc d0 d1 f0 f1
      subst hk
      have d0 := (hb.cell (p := ⟨g1, j * 3, none⟩) hg1).trans d0
      have d1 := (hb.cell (p := ⟨g1, j * 3 + 1, none⟩) hg1).trans d1
      have f0 := (hb.cell (p := ⟨g2, j * 3, none⟩) hg2).trans f0
      have f1 := (hb.cell (p := ⟨g2, j * 3 + 1, none⟩) hg2).trans f1
      have hr1 : g1 < wr.heap.size := Nat.lt_of_lt_of_le hg1 hb.size
      have hr2 : g2 < wr.heap.size := Nat.lt_of_lt_of_le hg2 hb.size
      have hjn : (j : Int) < (n : Int) := by omega
      have hxt := toL_eqH pt qt
      obtain ⟨X, hX⟩ : ∃ X : ByteArray, (⟨pt.toArray⟩ : ByteArray) = X := ⟨_, rfl⟩
      obtain ⟨Y, hY⟩ : ∃ Y : ByteArray, (⟨qt.toArray⟩ : ByteArray) = Y := ⟨_, rfl⟩
      rw [hX] at d1 hxt
      rw [hY] at f1 hxt
      generalize cnt j = m0 at hc hc1 ⊢
      generalize hm1 : cnt (j + 1) = m1 at hc hc2
      have HM1 := hide hm1
      clear hX hY hp hq hm1
      rcases Bool.eq_false_or_eq_true (pt == qt) with gx | gx
      · simp only [gx, if_true] at hc
        rw [gx] at hxt
        have hxn : (X.toList != Y.toList) = false := by show (!(X.toList == Y.toList)) = false; rw [hxt]; rfl
        have hm : m1 = m0 := by simpa using hc
        clear hc gx
        go_wp2_with fail
        go_quiet (first | fail)
        go_wp2_with fail
        go_quiet (first | fail)
        go_wp2_with fail
        go_roundw
        case rel => exact ⟨j + 1, by go_num, by rw [HM1.out, hm], by omega, by first | exact below_drewN (below_drewN hb _) _ | exact below_drewN hb _ | exact hb⟩
        case measure => simp [intOf]; omega
      · simp only [gx, Bool.false_eq_true, if_false] at hc
        rw [gx] at hxt
        have hxn : (X.toList != Y.toList) = true := by show (!(X.toList == Y.toList)) = true; rw [hxt]; rfl
        have hm : m1 = m0 + 1 := by simpa using hc
        have hmi : (m0 : Int) ≤ 1 := by omega
        clear hc gx
        go_wp2_with fail
        go_quiet (first | fail)
        go_wp2_with fail
        go_quiet (first | fail)
        go_wp2_with fail
        go_roundw
        case rel => exact ⟨j + 1, by go_num, by rw [HM1.out, hm]; go_num, by omega, by first | exact below_drewN (below_drewN hb _) _ | exact below_drewN hb _ | exact hb⟩
        case measure => simp [intOf]; omega
    · obtain rfl : j = n := by omega
      have hif : decide ((j : Int) < (j : Int)) = false := by simp
      have hc2 := C2.out j
      go_wp2_with fail
      go_ret
      exact ⟨_, rfl, hc2, hb⟩
end Go.Proofs.YtdnmgpidfjkiaaaDoor
