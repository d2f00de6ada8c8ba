/-
  fold.all: nodes in memory of their own.
-/
import Derived.Test.YtnepogddjinpoaaGreatDoorOwnNode
namespace Go.Proofs.YtnepogddjinpoaaGreatDoor
open Go.RowKit
set_option linter.unusedVariables false
set_option linter.unusedSimpArgs false

theorem nodeCells1 {k : Int} {s nm : ByteArray} {a1 : Option Addr} {n1 c1 : Nat} {a2 : Option Addr} {n2 c2 : Nat} {a3 : Option Addr} {n3 c3 : Nat} {pos esc unit : Int} : ∀ u ∈ nodeCells k s nm a1 n1 c1 a2 n2 c2 a3 n3 c3 pos esc unit, u.oneCell' = true := by
  intro u hu; simp at hu; rcases hu with rfl | rfl | rfl | rfl | rfl | rfl | rfl | rfl | rfl <;> rfl
set_option maxHeartbeats 4000000 in
set_option maxRecDepth 100000 in
theorem all_step (n : Nat) (hown : ∀ (U : World → Nat → Prop) (hU : Lasts U) (vs : List Value) (x : NT n) (w : World), NodeR n U w vs x → bareN n x ≤ 1048576 → Calls Tryz.prog 48 #[.agg ⟨vs⟩] w (NodeOwn n w x))
    (U : World → Nat → Prop) (hU : Lasts U) (a : Option Addr) (c : Nat) (l : List (NT n)) (w : World) (h : AtR (NodeR n) 9 U w a l) (hm : sumBy (bareN n) l ≤ 1048576) (hlen : l.length ≤ 1048576) : Calls Tryz.prog 27 #[.slice a l.length c] w (AllOwn n w l) := by
  obtain ⟨i0, hi, hz0, hz1, hz2⟩ := info_parts info_nodeO
  have H := hide h; have HM := hide hm
  clear h hm
  go_enter Tryz.func27, Tryz.ntmps27
  go_wp2_with (at_make; refine wpList_make_own _ rfl _ _ 41 rfl w.heap.size 61 i0 (.agg #[.int .i64 0, .string ⟨#[]⟩, .string ⟨#[]⟩, .slice none 0 0, .slice none 0 0, .slice none 0 0, .int .i64 0, .int .i64 0, .int .i64 0]) 9 Tryz.underlying41 hi hz0 hz1 .i64 .i64 _ l.length rfl rfl rfl (by rw [hz2]; omega) (by unfold maxLen; omega) (by simp) ?_; intro w2 hown2 hgrow2)
  have hI : Hid (Below w.heap.size w w2 ∧ RowR (NodeR n) 9 w.heap.size 61 w2 (.slice (some ⟨w.heap.size, 0, none⟩) 0 l.length) [] []) :=
    ⟨(Below.refl _ _).grown hgrow2 (Nat.le_refl _) (fun k e => by cases e), RowR.made (by simpa using hown2)⟩
  clear hown2 hgrow2
  go_loopw [3, 11] (fun ov iv wr => ∃ (j : Nat) (A0 : Option Addr) (cp : Nat) (es : List (List Value)) (xs : List (NT n)), iv = .int .i64 (j : Int) ∧ ov = .slice A0 j cp ∧ j ≤ l.length ∧ xs.length = j ∧ Hid (xs = l.take j) ∧ Hid (Below w.heap.size w wr ∧ RowR (NodeR n) 9 w.heap.size 61 wr (.slice A0 xs.length cp) es xs)) (fun _ iv _ => l.length - (intOf iv).toNat)
  case atStart => exact ⟨0, _, _, [], [], rfl, rfl, Nat.zero_le _, rfl, rfl, hI⟩
  case round =>
    obtain ⟨j, A0, cp, es, xs, rfl, rfl, hjl, hxl, hxs, hJ⟩ := hrel
    by_cases hlt : j < l.length
    · obtain ⟨z, hz⟩ : ∃ z, l[j]? = some z := ⟨_, List.getElem?_eq_getElem hlt⟩
      obtain ⟨g, o, vs, rfl, hg, _, _, hcell, hN⟩ := (H.out.on (NodeR.steady n) (hU.stays hJ.out.1)) j z hz
      have HN := hide hN
      obtain ⟨k, s, nm, a1, n1, c1, a2, n2, c2, a3, n3, c3, pos, esc, unit, rfl⟩ := hN.shape
      have f0 := hcell 0 _ rfl; have f1 := hcell 1 _ rfl; have f2 := hcell 2 _ rfl; have f3 := hcell 3 _ rfl; have f4 := hcell 4 _ rfl; have f5 := hcell 5 _ rfl; have f6 := hcell 6 _ rfl; have f7 := hcell 7 _ rfl; have f8 := hcell 8 _ rfl
      simp only [Nat.add_zero] at f0
      have hji : (j : Int) < (l.length : Int) := by omega
      have hzm : bareN n z ≤ 1048576 := Nat.le_trans (sumBy_mem (bareN n) l z (List.mem_of_getElem? hz)) HM.out
      have cO := hide (fun (W' : World) (h : Below wr.heap.size wr W') => hown U hU _ z W' (NodeR.steady n _ _ _ _ (hU.stays h) _ _ HN.out) hzm)
      have hnx := hide (show xs ++ [z] = l.take (j + 1) by rw [hxs.out, List.take_add_one, hz]; rfl)
      have hel : es.length = j := by rw [hJ.out.2.len, hxl]
      clear hcell hz hN HN hzm
      go_wp2_with fail
      refine (cO.out _ (Chg.bel (by (repeat' (first | with_reducible exact Chg.refl _ _ | with_reducible refine Chg.alloc ?_ _ | with_reducible refine Chg.drew ?_ | with_reducible refine Chg.drewN ?_ _ | with_reducible refine Chg.set_ ?_ _ _ (by first | (simp; done) | (simp; omega) | omega)))))).mono ?_
      rintro e' wP ⟨k', s', nm', a1', n1', c1', a2', n2', c2', a3', n3', c3', pos', esc', unit', rfl, hVP, hbP⟩
      have HBP := hide (below_step (a := wr) (Chg.bel (by (repeat' (first | with_reducible exact Chg.refl _ _ | with_reducible refine Chg.alloc ?_ _ | with_reducible refine Chg.drew ?_ | with_reducible refine Chg.drewN ?_ _ | with_reducible refine Chg.set_ ?_ _ _ (by first | (simp; done) | (simp; omega) | omega))))) hbP)
      have hsW : wr.heap.size ≤ (wr.alloc (.cells #[.int .i64 k, .string s, .string nm, .slice a1 n1 c1, .slice a2 n2 c2, .slice a3 n3 c3, .int .i64 pos, .int .i64 esc, .int .i64 unit] 61)).heap.size := by simp
      have HVP := hide hVP
      have hownP := (hJ.out.2.below (NodeR.steady n) HBP.out).own
      rw [hel, hxl] at hownP
      have hPz := HBP.out.size
      have hwz := hJ.out.1.size
      clear hVP hbP
      go_wp2_with (at_builtin; refine wpList_append_lies _ rfl _ _ 41 rfl w.heap.size 61 i0 (.agg #[.int .i64 0, .string ⟨#[]⟩, .string ⟨#[]⟩, .slice none 0 0, .slice none 0 0, .slice none 0 0, .int .i64 0, .int .i64 0, .int .i64 0]) 9 136 Tryz.underlying41 hi hz0 hz1 hz2 rfl (by decide) (.slice A0 j cp) j _ rfl (hownP.alloc _) ⟨wP.heap.size, 0, none⟩ 1 1 (nodeCells k' s' nm' a1' n1' c1' a2' n2' c2' a3' n3' c3' pos' esc' unit') rfl rfl (by intro j u hj; match j, hj with | 0, hj => (simp at hj; subst hj; simp [Addr.add]) | 1, hj => (simp at hj; subst hj; simp [Addr.add]) | 2, hj => (simp at hj; subst hj; simp [Addr.add]) | 3, hj => (simp at hj; subst hj; simp [Addr.add]) | 4, hj => (simp at hj; subst hj; simp [Addr.add]) | 5, hj => (simp at hj; subst hj; simp [Addr.add]) | 6, hj => (simp at hj; subst hj; simp [Addr.add]) | 7, hj => (simp at hj; subst hj; simp [Addr.add]) | 8, hj => (simp at hj; subst hj; simp [Addr.add])) (by intro u hu; simp at hu; rcases hu with rfl | rfl | rfl | rfl | rfl | rfl | rfl | rfl | rfl <;> rfl) (by omega) (by unfold maxLen; omega) (by omega) (by simp; omega) _ rfl ?_)
      intro g4 cp4 w4 hown4 hgrow4 hat4 hlt4
      have hIn := hide ((hJ.out.2.below (NodeR.steady n) HBP.out).snoc (NodeR.steady n) (c := nodeCells k' s' nm' a1' n1' c1' a2' n2' c2' a3' n3' c3' pos' esc' unit') (y := z) rfl HVP.out (fun q hq => by have := (hJ.out.2.own.lt q hq).2; simp; omega) (by simp; omega) ((Below.refl wP.heap.size wP).alloc (Nat.le_refl _) (.cells #[.int .i64 k', .string s', .string nm', .slice a1' n1' c1', .slice a2' n2' c2', .slice a3' n3' c3', .int .i64 pos', .int .i64 esc', .int .i64 unit'] 61)) (by rw [hxl]; exact hgrow4) (by rw [hel]; exact hown4) (by rw [hxl, World.size_alloc]; exact hat4))
      have hBn := hide (((hJ.out.1.trans (HBP.out.mono hwz)).alloc (by omega) (.cells #[.int .i64 k', .string s', .string nm', .slice a1' n1' c1', .slice a2' n2' c2', .slice a3' n3' c3', .int .i64 pos', .int .i64 esc', .int .i64 unit'] 61)).grown hgrow4 (by simp; omega) (fun q hq => (hownP.lt q hq).1))
      rw [hel] at hIn
      clear hown4 hgrow4 hat4 hownP hel
      go_wp2_with fail
      go_roundw
      case rel => exact ⟨j + 1, _, _, _, _, by go_num, rfl, by omega, by simp [hxl], hnx.out, hide (And.intro hBn.out (by simpa [hxl] using hIn.out))⟩
      case measure => simp [intOf]; omega
    · obtain rfl : j = l.length := by omega
      have hif : decide ((l.length : Int) < (l.length : Int)) = false := by simp
      have hxe : xs = l := by rw [hxs.out, List.take_length]
      subst hxe
      clear hxl hjl hlt
      go_wp2_with fail
      go_ret
      exact ⟨A0, cp, es, rfl, hJ.out.2, hJ.out.1⟩
theorem own_node (n : Nat) (hall : ∀ (U : World → Nat → Prop) (hU : Lasts U) (a : Option Addr) (c : Nat) (l : List (NT n)) (w : World), AtR (NodeR n) 9 U w a l → sumBy (bareN n) l ≤ 1048576 → Calls Tryz.prog 27 #[.slice a l.length c] w (AllOwn n w l))
    (U : World → Nat → Prop) (hU : Lasts U) (vs : List Value) (x : NT (n + 1)) (w : World) (h : NodeR (n + 1) U w vs x) (hm : bareN (n + 1) x ≤ 1048576) : Calls Tryz.prog 48 #[.agg ⟨vs⟩] w (NodeOwn (n + 1) w x) := by
  obtain ⟨k, s, nm, pipe, body, els, pos, esc, unit⟩ := (x : NN (NT n))
  obtain ⟨a1, c1, a2, c2, a3, c3, rfl, h1, h2, h3⟩ := h.parts
  rw [bareN_succ] at hm
  simp only at hm h1 h2 h3
  exact own_any n hall U hU k pos esc unit s nm a1 a2 a3 c1 c2 c3 pipe body els w h1 h2 h3 (by omega) (by omega) (by omega)
theorem all_anyB : ∀ (n : Nat) (U : World → Nat → Prop) (hU : Lasts U) (a : Option Addr) (c : Nat) (l : List (NT n)) (w : World), AtR (NodeR n) 9 U w a l → sumBy (bareN n) l ≤ 1048576 → Calls Tryz.prog 27 #[.slice a l.length c] w (AllOwn n w l) := by
  intro n
  induction n with
  | zero =>
    intro U hU a c l w h hm
    refine all_step 0 (fun U hU vs x w h _ => h.elim) U hU a c l w h hm ?_
    cases l with
    | nil => simp
    | cons x l => exact x.elim
  | succ n ih =>
    intro U hU a c l w h hm
    exact all_step (n + 1) (fun U hU vs x w h hx => own_node n ih U hU vs x w h hx) U hU a c l w h hm (Nat.le_trans (sumBy_len (bareN (n + 1)) bareN_pos l) hm)
theorem all_any (n : Nat) (U : World → Nat → Prop) (hU : Lasts U) (a : Option Addr) (c : Nat) (l : List (NT n)) (w : World) (h : AtR (NodeR n) 9 U w a l) (hm : sumBy (massN n) l ≤ 1048576) : Calls Tryz.prog 27 #[.slice a l.length c] w (AllOwn n w l) :=
  all_anyB n U hU a c l w h (Nat.le_trans (bare_le_sum l) hm)
end Go.Proofs.YtnepogddjinpoaaGreatDoor
