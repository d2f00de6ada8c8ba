/-
  muslinref01: Chars, Repair, Valid.
-/
import Derived.Test.YtlandmahjdaphaaDoorRefUtf2
import Derived.OwnWalk
import Derived.Deep.OwnRows
import Derived.Lib.AppendStr
namespace Go.Proofs.YtlandmahjdaphaaDoor
open Go.RowKit
set_option linter.unusedVariables false
set_option linter.unusedSimpArgs false

theorem info_i64 : (Tryd.prog.info? 3).map (fun i => (i.zero, i.size, i.bytes)) = some (some (.int .i64 0), 1, 8) := by kernel_rfl
theorem info_u8R : (Tryd.prog.info? 5).map (fun i => (i.zero, i.size, i.bytes)) = some (some (.int .u8 0), 1, 1) := by kernel_rfl
theorem own_keep {w w' : World} {base n size : Nat} {e : TypeId} {v : Value} {xs : List Value} (h : w.ownsRow base e size v n xs) (hb : Below w.heap.size w w') : w'.ownsRow base e size v n xs :=
  h.kept (row := none) ⟨hb.os, hb.tape, hb.output, hb.size, fun k hk _ => hb.block k hk⟩ (by cases h : v.ownBlock <;> simp)
theorem grow_stepR {w wr w1 : World} {B k size : Nat} {e : TypeId} {v : Value} {xs : List Value} {o : Obj} (hown : wr.ownsRow B e size v k xs) (hb : Below B w wr) (hB : B ≤ wr.heap.size) (hg : (wr.alloc o).grownBy w1 v.ownBlock) : Below B w w1 :=
  (hb.alloc hB o).grown hg (by simp; omega) (fun j hj => (hown.lt j hj).1)
theorem grow_stepS {w wr w1 : World} {B k size : Nat} {e : TypeId} {v : Value} {xs : List Value} (hown : wr.ownsRow B e size v k xs) (hb : Below B w wr) (hB : B ≤ wr.heap.size) (hg : wr.grownBy w1 v.ownBlock) : Below B w w1 :=
  hb.grown hg hB (fun j hj => (hown.lt j hj).1)
theorem drop_str (l : List UInt8) (k : Nat) : (⟨l.toArray⟩ : ByteArray).extract k l.length = ⟨(l.drop k).toArray⟩ := by
  have := Lib.extract_from (⟨l.toArray⟩ : ByteArray) k
  rw [mk_size] at this
  exact this
abbrev ints (xs : List Int) : List Value := xs.map (Value.int .i64)
theorem fixC_no {c : Int} (h : ¬ c ≤ 0) : fixC c = c := by unfold fixC; rw [if_neg h]
theorem fixC_yes {c : Int} (h : c ≤ 0) : fixC c = 65533 := by unfold fixC; rw [if_pos h]
theorem chars_next (l : List UInt8) (k : Nat) (xs : List Int) (hk : k < l.length) (h : xs ++ charsR (l.drop k) = charsR l) :
    (xs ++ [fixC (decR (l.drop k)).1]) ++ charsR (l.drop (k + (decR (l.drop k)).2)) = charsR l := by
  rw [charsR_cons (l.drop k) (by intro e; have := congrArg List.length e; rw [List.length_drop] at this; simp at this; omega)] at h
  rw [← h, List.drop_drop]
  simp
set_option maxHeartbeats 4000000 in
set_option maxRecDepth 100000 in
theorem refChars_any (l : List UInt8) (w : World) (hz : l.length ≤ 1000000000) :
    Calls Tryd.prog 18 #[.string ⟨l.toArray⟩] w fun e w' => ∃ v, e = .returned v ∧ w'.ownsRow w.heap.size 3 1 v (charsR l).length (ints (charsR l)) ∧ Below w.heap.size w w' := by
  obtain ⟨i0, hi, hz0, hz1, hz2⟩ := info_parts info_i64
  go_enter Tryd.func18, Tryd.ntmps18
  go_wp2
  go_loopw [3, 4] (fun b i wr => ∃ (k : Nat) (xs : List Int), i = .int .i64 (k : Int) ∧ k ≤ l.length ∧ xs.length ≤ k ∧ wr.ownsRow w.heap.size 3 1 b xs.length (ints xs) ∧ Below w.heap.size w wr ∧ Hid (xs ++ charsR (l.drop k) = charsR l)) (fun _ i _ => l.length - (intOf i).toNat)
  case atStart => exact ⟨0, [], rfl, Nat.zero_le _, Nat.le_refl _, World.ownsRow_nil _ _ _ _, Below.refl _ _, rfl⟩
  case round =>
    obtain ⟨k, xs, rfl, hk, hxk, hown, hb, hch⟩ := hrel
    by_cases hlt : k < l.length
    · have cD := refDecode_any (l.drop k) wr (by rw [List.length_drop]; omega)
      rw [← drop_str] at cD
      have hp := decR_pos (l.drop k) (by intro e; have := congrArg List.length e; rw [List.length_drop] at this; simp at this; omega)
      rw [List.length_drop] at hp
      have hnx := hide (chars_next l k xs hlt hch.out)
      generalize decR (l.drop k) = d at cD hp hnx
      obtain ⟨c, n⟩ := d
      simp only at cD hp hnx
      have cD := hide cD
      obtain ⟨hp1, hp2⟩ := hp
      have hkl : (k : Int) < (l.length : Int) := by omega
      by_cases hc : c ≤ 0
      · rw [fixC_yes hc] at hnx
        go_wp2_with fail
        refine (cD.out).mono ?_
        rintro e w1 ⟨rfl, hb1⟩
        have hown1 := own_keep hown hb1
        have hbb := hb.trans (hb1.mono hb.size)
        have hbz := hbb.size
        clear hown hb hb1
        go_wp2_with (at_builtin; refine wpList_append_own _ rfl _ _ 39 rfl w.heap.size 3 i0 (.int .i64 0) 1 8 Tryd.underlying39 hi hz0 hz1 hz2 rfl (by decide) _ _ _ rfl (hown1.alloc _) ⟨w1.heap.size, 0, none⟩ 1 1 [.int .i64 65533] rfl rfl (by intro j u hj; match j, hj with | 0, hj => simp at hj; subst hj; simp [Addr.add]) (by intro u hu; simp at hu; subst hu; rfl) (by unfold maxLen; omega) (by omega) (by simp; omega) ?_)
        intro v' w2 hown' hgrow _
        have hb' := grow_stepR hown1 hbb hbz hgrow
        have HO := hide (show w2.ownsRow w.heap.size 3 1 v' (xs ++ [65533]).length (ints (xs ++ [65533])) by simpa [ints] using hown')
        clear hown' hgrow hown1 hch
        go_wp2
        go_roundw
        case rel => exact ⟨k + n, xs ++ [65533], by go_num, by omega, by simp; omega, HO, hb', hnx⟩
        case measure => simp [intOf]; omega
      · rw [fixC_no hc] at hnx
        have hc0 : (0 : Int) < c := by omega
        have hcd : decide (c ≤ 0) = false := by simpa using hc
        clear hc
        go_wp2_with fail
        refine (cD.out).mono ?_
        rintro e w1 ⟨rfl, hb1⟩
        have hown1 := own_keep hown hb1
        have hbb := hb.trans (hb1.mono hb.size)
        have hbz := hbb.size
        clear hown hb hb1
        go_wp2_with (at_builtin; refine wpList_append_own _ rfl _ _ 39 rfl w.heap.size 3 i0 (.int .i64 0) 1 8 Tryd.underlying39 hi hz0 hz1 hz2 rfl (by decide) _ _ _ rfl (hown1.alloc _) ⟨w1.heap.size, 0, none⟩ 1 1 [.int .i64 c] rfl rfl (by intro j u hj; match j, hj with | 0, hj => simp at hj; subst hj; simp [Addr.add]) (by intro u hu; simp at hu; subst hu; rfl) (by unfold maxLen; omega) (by omega) (by simp; omega) ?_)
        intro v' w2 hown' hgrow _
        have hb' := grow_stepR hown1 hbb hbz hgrow
        have HO := hide (show w2.ownsRow w.heap.size 3 1 v' (xs ++ [c]).length (ints (xs ++ [c])) by simpa [ints] using hown')
        clear hown' hgrow hown1 hch
        go_wp2
        go_roundw
        case rel => exact ⟨k + n, xs ++ [c], by go_num, by omega, by simp; omega, HO, hb', hnx⟩
        case measure => simp [intOf]; omega
    · have hk2 : k = l.length := by omega
      have hxs : xs = charsR l := by have := hch.out; rw [hk2, List.drop_length, charsR_nil, List.append_nil] at this; exact this
      subst hxs
      clear hk2 hch
      go_wp2
      go_ret
      exact ⟨_, rfl, hown, hb⟩
theorem own_kept_other {w w' : World} {B1 B2 s1 n m : Nat} {e1 e2 : TypeId} {v u : Value} {xs ys : List Value} (hv : w.ownsRow B1 e1 s1 v n xs) (hu : w.ownsRow B2 e2 1 u m ys) (hne : e1 ≠ e2) (hg : w.grownBy w' u.ownBlock) : w'.ownsRow B1 e1 s1 v n xs := by
  refine hv.kept hg ?_
  rcases hv.2 with ⟨rfl, _⟩ | ⟨g, cap, cur, rfl, _, hgg, _⟩
  · exact .inl rfl
  · exact .inr fun h => Lib.ownBlock_ne hu hgg hne h.symm
theorem conv_ownR {w : World} {base n : Nat} {v : Value} {l : List UInt8} (h : w.ownsRow base 5 1 v n (bv l)) : (convert 37 9 v).run Tryd.prog w = .ok (.string ⟨l.toArray⟩) w := by
  have h2 := h
  rcases h.2 with ⟨rfl, rfl⟩ | ⟨g, cap, cur, rfl, _⟩
  · exact conv_str 37 9 5 Tryd.underlying37 Tryd.underlying5 Tryd.underlying9 (Reads.of_own h2)
  · exact conv_str 37 9 5 Tryd.underlying37 Tryd.underlying5 Tryd.underlying9 (Reads.of_own h2)
theorem bv_app (a b : List UInt8) : bv (a ++ b) = bv a ++ Lib.strCells ⟨b.toArray⟩ := by simp [bv, Lib.strCells]
end Go.Proofs.YtlandmahjdaphaaDoor
