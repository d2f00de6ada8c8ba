/-
  jslex.Kinds, the page's Blank, the page's example; JslexPieces: THE WALK.
-/
import Derived.Test.YtdnmgpidfjkiaaaDoorLexG
namespace Go.Proofs.YtdnmgpidfjkiaaaDoor
open Go.RowKit
set_option linter.unusedVariables false
set_option linter.unusedSimpArgs false

theorem blank_orsL (c : UInt8) : isBlank c = ((c.toNat : Int) == 32 || ((c.toNat : Int) == 9 || ((c.toNat : Int) == 10 || ((c.toNat : Int) == 12 || (c.toNat : Int) == 13)))) := by
  have := allBytes (fun c => isBlank c == ((c.toNat : Int) == 32 || ((c.toNat : Int) == 9 || ((c.toNat : Int) == 10 || ((c.toNat : Int) == 12 || (c.toNat : Int) == 13))))) (by decide +kernel) c
  simpa using this

set_option maxHeartbeats 1000000 in
theorem refBlank_any (c : UInt8) (w : World) : Calls Tryd.prog 23 #[.int .u8 (c.toNat : Int)] w fun e w' => e = .returned (.bool (isBlank c)) ∧ w = w' := by
  have hb := blank_orsL c
  generalize (c.toNat : Int) = x at hb ⊢
  rcases Bool.eq_false_or_eq_true (x == 32) with e0 | e0
  · rw [show isBlank c = true by rw [hb]; simp [e0]]
    clear hb
    go_enter Tryd.func23, Tryd.ntmps23
    go_wp2
    go_ret
    exact ⟨rfl, rfl⟩
  rcases Bool.eq_false_or_eq_true (x == 9) with e1 | e1
  · rw [show isBlank c = true by rw [hb]; simp [e0, e1]]
    clear hb
    go_enter Tryd.func23, Tryd.ntmps23
    go_wp2
    go_ret
    exact ⟨rfl, rfl⟩
  rcases Bool.eq_false_or_eq_true (x == 10) with e2 | e2
  · rw [show isBlank c = true by rw [hb]; simp [e0, e1, e2]]
    clear hb
    go_enter Tryd.func23, Tryd.ntmps23
    go_wp2
    go_ret
    exact ⟨rfl, rfl⟩
  rcases Bool.eq_false_or_eq_true (x == 12) with e3 | e3
  · rw [show isBlank c = true by rw [hb]; simp [e0, e1, e2, e3]]
    clear hb
    go_enter Tryd.func23, Tryd.ntmps23
    go_wp2
    go_ret
    exact ⟨rfl, rfl⟩
  rcases Bool.eq_false_or_eq_true (x == 13) with e4 | e4
  · rw [show isBlank c = true by rw [hb]; simp [e0, e1, e2, e3, e4]]
    clear hb
    go_enter Tryd.func23, Tryd.ntmps23
    go_wp2
    go_ret
    exact ⟨rfl, rfl⟩
  rw [show isBlank c = false by rw [hb]; simp [e0, e1, e2, e3, e4]]
  clear hb
  go_enter Tryd.func23, Tryd.ntmps23
  go_wp2
  go_ret
  exact ⟨rfl, rfl⟩



theorem came_len {s : List UInt8} {a : Nat} {P : List Pc} (h : Came s a P) : P.length ≤ 4096 :=
  h (fun _ P => P.length ≤ 4096) (by simp) (fun _ _ _ h _ _ => h) (fun _ _ _ _ _ _ _ _ _ h => by simp; omega)
theorem told_len {s : List UInt8} {P : List Pc} {n e : Int} (h : Told s P n e) : P.length ≤ 4096 := by
  rcases h with ⟨_, rfl, _⟩ | ⟨_, hC, _⟩ | ⟨_, rfl, _⟩
  · simp
  · exact came_len hC
  · simp
theorem info_intL : (Tryd.prog.info? 3).map (fun i => (i.zero, i.size, i.bytes)) = some (some (.int .i64 0), 1, 8) := by kernel_rfl
def kindV (P : List Pc) : List Value := P.map fun q => .int .i64 q.k
theorem own_int {w : World} {base : Nat} {v : Value} {P : List Pc} (h : w.ownsRow base 3 1 v P.length (kindV P)) (i : Nat) (q : Pc) (hq : P[i]? = some q) :
    ∃ g cap, v = .slice (some ⟨g, 0, none⟩) P.length cap ∧ g < w.heap.size ∧ w.cell? ⟨g, i, none⟩ = some (.int .i64 q.k) := by
  have hi := (List.getElem?_eq_some_iff.1 hq).1
  obtain ⟨g, cap, rfl, hlt⟩ : ∃ g cap, v = .slice (some ⟨g, 0, none⟩) P.length cap ∧ g < w.heap.size := by
    rcases h.2 with ⟨_, hn⟩ | ⟨g, cap, cur, hv, _, hg, _⟩
    · exact absurd hn (by omega)
    · exact ⟨g, cap, hv, lt_of_heapL hg⟩
  refine ⟨g, cap, rfl, hlt, ?_⟩
  have := h.cells (g := g) rfl i (.int .i64 q.k) (by simp [kindV, hq])
  rw [zaddL] at this; exact this
set_option maxHeartbeats 2000000 in
set_option maxRecDepth 100000 in
theorem kinds_any (v : Value) (P : List Pc) (base : Nat) (w : World) (hz : P.length ≤ 4096) (hP : w.ownsRow base 44 3 v P.length (pcCells P)) :
    Calls Tryd.prog 22 #[v] w fun e w' => ∃ v', e = .returned v' ∧ w'.ownsRow w.heap.size 3 1 v' P.length (kindV P) ∧ Below w.heap.size w w' := by
  obtain ⟨i0, hi, hz0, hz1, hz2⟩ := info_parts info_intL
  obtain ⟨A1, c1, rfl⟩ := own_sliceL hP
  go_enter Tryd.func22, Tryd.ntmps22
  go_wp2_with (at_make; refine wpList_make_own _ rfl _ _ 41 rfl w.heap.size 3 i0 (.int .i64 0) 1 Tryd.underlying41 hi hz0 hz1 .i64 .i64 _ P.length rfl rfl rfl (by rw [hz2]; omega) (by unfold maxLen; omega) (Nat.le_refl _) ?_; intro w0 hown0 hgrow0)
  have hB0 : Below w.heap.size w w0 := (Below.refl _ w).grown hgrow0 (Nat.le_refl _) (fun k e => by cases e)
  go_loopw [3, 11] (fun o i wr => ∃ (k : Nat) (A0 : Option Addr) (cp : Nat), o = .slice A0 k cp ∧ i = .int .i64 (k : Int) ∧ k ≤ P.length ∧ wr.ownsRow w.heap.size 3 1 (.slice A0 k cp) k (kindV (P.take k)) ∧ Below w.heap.size w wr) (fun _ i _ => P.length - (intOf i).toNat)
  case atStart => exact ⟨0, _, _, rfl, rfl, Nat.zero_le _, hown0, hB0⟩
  case round =>
    obtain ⟨k, A0, cp, rfl, rfl, hk, hown, hb⟩ := hrel
    have hbz := hb.size
    by_cases hlt : k < P.length
    · obtain ⟨p, hp⟩ : ∃ p, P[k]? = some p := ⟨_, List.getElem?_eq_getElem hlt⟩
      obtain ⟨g, cap, he, hgl, d0, d1, d2⟩ := own_pc (own_keepL hP hb) k p hp
      injection he with he1 he2 he3
      subst he1; subst he3
      have hnx := hide (show kindV (P.take k) ++ [.int .i64 p.k] = kindV (P.take (k + 1)) by
        rw [List.take_add_one, hp]; simp [kindV])
      obtain ⟨pk, pt, pp⟩ := p
      simp only at d0 d1 d2 hnx
      obtain ⟨x, hx⟩ : ∃ x : ByteArray, (⟨pt.toArray⟩ : ByteArray) = x := ⟨_, rfl⟩
      rw [hx] at d1
      have hki : (k : Int) < (P.length : Int) := by omega
      have hPH := hide hP
      clear hp hx hP
      go_wp2_with (at_builtin; refine wpList_append_own _ rfl _ _ 41 rfl w.heap.size 3 i0 (.int .i64 0) 1 8 Tryd.underlying41 hi hz0 hz1 hz2 rfl (by decide) _ _ _ rfl ((hown.alloc _).alloc _) ⟨wr.heap.size + 1, 0, none⟩ 1 1 [.int .i64 pk] rfl rfl (by intro j u hj; match j, hj with | 0, hj => (simp at hj; subst hj; simp [Addr.add])) (by intro u hu; simp at hu; subst hu; rfl) (by unfold maxLen; omega) (by omega) (by simp; omega) ?_)
      intro v' w5 hown' hgrow _
      obtain ⟨A5, c5, rfl⟩ := own_sliceL hown'
      rw [hnx.out] at hown'
      have hbF := ((hb.alloc hbz _).alloc (by simp; omega) _).grown hgrow (by simp; omega) (fun j hj => (hown.lt j hj).1)
      go_wp2_with fail
      go_roundw
      case rel => exact ⟨k + 1, A5, c5, rfl, by go_num, by omega, hown', hbF⟩
      case measure => simp [intOf]; omega
    · have hk2 : k = P.length := by omega
      subst hk2
      have hge : decide ((P.length : Int) < (P.length : Int)) = false := by simp
      rw [List.take_length] at hown
      go_wp2_with fail
      go_ret
      exact ⟨_, rfl, hown, hb⟩
set_option maxHeartbeats 400000 in
set_option maxRecDepth 100000 in
theorem alive38 (w : World) (hL : LexW w) : Calls Tryd.prog 20 #[] w fun e w' => e = .returned (.bool true) ∧ Below w.heap.size w w' := by
  have cP := hide (pieces_any [97, 32, 47, 32, 98] w hL)
  go_enter Tryd.func20, Tryd.ntmps20
  go_wp2_with fail
  refine (cP.out).mono ?_
  rintro e w1 ⟨v, P, n, er, rfl, hT, hown, hb⟩
  obtain ⟨rfl, rfl, rfl⟩ := told_alive hT
  obtain ⟨g, cap, rfl, hg, d0, d1, d2⟩ := own_pc hown 1 ⟨5, [47], 2⟩ rfl
  simp at d0
  clear hown d1 d2
  go_wp2_with fail
  go_ret
  exact ⟨rfl, hb⟩
end Go.Proofs.YtdnmgpidfjkiaaaDoor
