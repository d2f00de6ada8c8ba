/-
  muslinref01: Chars, Repair, Valid.
-/
import Derived.Test.YtdnmgpidfjkiaaaDoorRefUtf2
import Derived.OwnWalk
import Derived.Deep.OwnRows
import Derived.Lib.AppendStr
namespace Go.Proofs.YtdnmgpidfjkiaaaDoor
open Go.RowKit
set_option linter.unusedVariables false
set_option linter.unusedSimpArgs false

theorem info_i64 : (Tryd.prog.info? 3).map (fun i => (i.zero, i.size, i.bytes)) = some (some (.int .i64 0), 1, 8) := by kernel_rfl
theorem info_u8R : (Tryd.prog.info? 5).map (fun i => (i.zero, i.size, i.bytes)) = some (some (.int .u8 0), 1, 1) := by kernel_rfl
theorem own_keep {w w' : World} {base n size : Nat} {e : TypeId} {v : Value} {xs : List Value} (h : w.ownsRow base e size v n xs) (hb : Below w.heap.size w w') : w'.ownsRow base e size v n xs :=
  h.kept (row := none) ⟨hb.os, hb.tape, hb.output, hb.size, fun k hk _ => hb.block k hk⟩ (by cases h : v.ownBlock <;> simp)
theorem grow_stepR {w wr w1 : World} {B k size : Nat} {e : TypeId} {v : Value} {xs : List Value} {o : Obj} (hown : wr.ownsRow B e size v k xs) (hb : Below B w wr) (hB : B ≤ wr.heap.size) (hg : (wr.alloc o).grownBy w1 v.ownBlock) : Below B w w1 :=
  (hb.alloc hB o).grown hg (by simp; omega) (fun j hj => (hown.lt j hj).1)
theorem grow_stepS {w wr w1 : World} {B k size : Nat} {e : TypeId} {v : Value} {xs : List Value} (hown : wr.ownsRow B e size v k xs) (hb : Below B w wr) (hB : B ≤ wr.heap.size) (hg : wr.grownBy w1 v.ownBlock) : Below B w w1 :=
  hb.grown hg hB (fun j hj => (hown.lt j hj).1)
theorem drop_str (l : List UInt8) (k : Nat) : (⟨l.toArray⟩ : ByteArray).extract k l.length = ⟨(l.drop k).toArray⟩ := by
  have := Lib.extract_from (⟨l.toArray⟩ : ByteArray) k
  rw [mk_size] at this
  exact this
abbrev ints (xs : List Int) : List Value := xs.map (Value.int .i64)
theorem fixC_no {c : Int} (h : ¬ c ≤ 0) : fixC c = c := by unfold fixC; rw [if_neg h]
theorem fixC_yes {c : Int} (h : c ≤ 0) : fixC c = 65533 := by unfold fixC; rw [if_pos h]
theorem chars_next (l : List UInt8) (k : Nat) (xs : List Int) (hk : k < l.length) (h : xs ++ charsR (l.drop k) = charsR l) :
    (xs ++ [fixC (decR (l.drop k)).1]) ++ charsR (l.drop (k + (decR (l.drop k)).2)) = charsR l := by
  rw [charsR_cons (l.drop k) (by intro e; have := congrArg List.length e; rw [List.length_drop] at this; simp at this; omega)] at h
  rw [← h, List.drop_drop]
  simp
set_option maxHeartbeats 4000000 in
set_option maxRecDepth 100000 in
theorem refChars_any (l : List UInt8) (w : World) (hz : l.length ≤ 1000000000) :
    Calls Tryd.prog 52 #[.string ⟨l.toArray⟩] w fun e w' => ∃ v, e = .returned v ∧ w'.ownsRow w.heap.size 3 1 v (charsR l).length (ints (charsR l)) ∧ Below w.heap.size w w' := by
  obtain ⟨i0, hi, hz0, hz1, hz2⟩ := info_parts info_i64
  go_enter Tryd.func52, Tryd.ntmps52
  go_wp2
  go_loopw [3, 4] (fun b i wr => ∃ (k : Nat) (xs : List Int), i = .int .i64 (k : Int) ∧ k ≤ l.length ∧ xs.length ≤ k ∧ wr.ownsRow w.heap.size 3 1 b xs.length (ints xs) ∧ Below w.heap.size w wr ∧ Hid (xs ++ charsR (l.drop k) = charsR l)) (fun _ i _ => l.length - (intOf i).toNat)
  case atStart => exact ⟨0, [], rfl, Nat.zero_le _, Nat.le_refl _, World.ownsRow_nil _ _ _ _, Below.refl _ _, rfl⟩
  case round =>
    obtain ⟨k, xs, rfl, hk, hxk, hown, hb, hch⟩ := hrel
    by_cases hlt : k < l.length
    · have cD := refDecode_any (l.drop k) wr (by rw [List.length_drop]; omega)
      rw [← drop_str] at cD
      have hp := decR_pos (l.drop k) (by intro e; have := congrArg List.length e; rw [List.length_drop] at this; simp at this; omega)
      rw [List.length_drop] at hp
      have hnx := hide (chars_next l k xs hlt hch.out)
      generalize decR (l.drop k) = d at cD hp hnx
      obtain ⟨c, n⟩ := d
      simp only at cD hp hnx
      have cD := hide cD
      obtain ⟨hp1, hp2⟩ := hp
      have hkl : (k : Int) < (l.length : Int) := by omega
      by_cases hc : c ≤ 0
      · rw [fixC_yes hc] at hnx
        go_wp2_with fail
        refine (cD.out).mono ?_
        rintro e w1 ⟨rfl, hb1⟩
        have hown1 := own_keep hown hb1
        have hbb := hb.trans (hb1.mono hb.size)
        have hbz := hbb.size
        clear hown hb hb1
        go_wp2_with (at_builtin; refine wpList_append_own _ rfl _ _ 41 rfl w.heap.size 3 i0 (.int .i64 0) 1 8 Tryd.underlying41 hi hz0 hz1 hz2 rfl (by decide) _ _ _ rfl (hown1.alloc _) ⟨w1.heap.size, 0, none⟩ 1 1 [.int .i64 65533] rfl rfl (by intro j u hj; match j, hj with | 0, hj => simp at hj; subst hj; simp [Addr.add]) (by intro u hu; simp at hu; subst hu; rfl) (by unfold maxLen; omega) (by omega) (by simp; omega) ?_)
        intro v' w2 hown' hgrow _
        have hb' := grow_stepR hown1 hbb hbz hgrow
        have HO := hide (show w2.ownsRow w.heap.size 3 1 v' (xs ++ [65533]).length (ints (xs ++ [65533])) by simpa [ints] using hown')
        clear hown' hgrow hown1 hch
        go_wp2
        go_roundw
        case rel => exact ⟨k + n, xs ++ [65533], by go_num, by omega, by simp; omega, HO, hb', hnx⟩
        case measure => simp [intOf]; omega
      · rw [fixC_no hc] at hnx
        have hc0 : (0 : Int) < c := by omega
        have hcd : decide (c ≤ 0) = false := by simpa using hc
        clear hc
        go_wp2_with fail
        refine (cD.out).mono ?_
        rintro e w1 ⟨rfl, hb1⟩
        have hown1 := own_keep hown hb1
        have hbb := hb.trans (hb1.mono hb.size)
        have hbz := hbb.size
        clear hown hb hb1
        go_wp2_with (at_builtin; refine wpList_append_own _ rfl _ _ 41 rfl w.heap.size 3 i0 (.int .i64 0) 1 8 Tryd.underlying41 hi hz0 hz1 hz2 rfl (by decide) _ _ _ rfl (hown1.alloc _) ⟨w1.heap.size, 0, none⟩ 1 1 [.int .i64 c] rfl rfl (by intro j u hj; match j, hj with | 0, hj => simp at hj; subst hj; simp [Addr.add]) (by intro u hu; simp at hu; subst hu; rfl) (by unfold maxLen; omega) (by omega) (by simp; omega) ?_)
        intro v' w2 hown' hgrow _
        have hb' := grow_stepR hown1 hbb hbz hgrow
        have HO := hide (show w2.ownsRow w.heap.size 3 1 v' (xs ++ [c]).length (ints (xs ++ [c])) by simpa [ints] using hown')
        clear hown' hgrow hown1 hch
        go_wp2
        go_roundw
        case rel => exact ⟨k + n, xs ++ [c], by go_num, by omega, by simp; omega, HO, hb', hnx⟩
        case measure => simp [intOf]; omega
    · have hk2 : k = l.length := by omega
      have hxs : xs = charsR l := by have := hch.out; rw [hk2, List.drop_length, charsR_nil, List.append_nil] at this; exact this
      subst hxs
      clear hk2 hch
      go_wp2
      go_ret
      exact ⟨_, rfl, hown, hb⟩
theorem own_kept_other {w w' : World} {B1 B2 s1 n m : Nat} {e1 e2 : TypeId} {v u : Value} {xs ys : List Value} (hv : w.ownsRow B1 e1 s1 v n xs) (hu : w.ownsRow B2 e2 1 u m ys) (hne : e1 ≠ e2) (hg : w.grownBy w' u.ownBlock) : w'.ownsRow B1 e1 s1 v n xs := by
  refine hv.kept hg ?_
  rcases hv.2 with ⟨rfl, _⟩ | ⟨g, cap, cur, rfl, _, hgg, _⟩
  · exact .inl rfl
  · exact .inr fun h => Lib.ownBlock_ne hu hgg hne h.symm
theorem conv_ownR {w : World} {base n : Nat} {v : Value} {l : List UInt8} (h : w.ownsRow base 5 1 v n (bv l)) : (convert 78 9 v).run Tryd.prog w = .ok (.string ⟨l.toArray⟩) w := by
  have h2 := h
  rcases h.2 with ⟨rfl, rfl⟩ | ⟨g, cap, cur, rfl, _⟩
  · exact conv_str 78 9 5 Tryd.underlying78 Tryd.underlying5 Tryd.underlying9 (Reads.of_own h2)
  · exact conv_str 78 9 5 Tryd.underlying78 Tryd.underlying5 Tryd.underlying9 (Reads.of_own h2)
theorem bv_app (a b : List UInt8) : bv (a ++ b) = bv a ++ Lib.strCells ⟨b.toArray⟩ := by simp [bv, Lib.strCells]
set_option maxHeartbeats 4000000 in
set_option maxRecDepth 100000 in
theorem refRepair_any (l : List UInt8) (w : World) (hz : l.length ≤ 1000000000) :
    Calls Tryd.prog 29 #[.string ⟨l.toArray⟩] w fun e w' => e = .returned (.string ⟨(repairR l).toArray⟩) ∧ Below w.heap.size w w' := by
  obtain ⟨i0, hi, hz0, hz1, hz2⟩ := info_parts info_u8R
  have cC := hide (fun w => refChars_any l w hz)
  have hm := charsR_len l
  have hgood := charsR_good l
  have hrep := hide (show repairR l = (charsR l).flatMap encL from rfl)
  generalize repairR l = R at hrep
  generalize charsR l = cs at cC hm hgood hrep
  have HG := hide hgood
  clear hgood
  go_enter Tryd.func29, Tryd.ntmps29
  go_wp2_with fail
  refine (cC.out _).mono ?_
  rintro e w1 ⟨v, rfl, hown0, hb0⟩
  rcases hown0.2 with ⟨rfl, hn0⟩ | ⟨g, cap, cur, rfl, _⟩
  · have hcs : cs = [] := List.eq_nil_of_length_eq_zero hn0
    have HR := hide (show R = [] by rw [hrep.out, hcs]; rfl)
    clear hown0 hrep hn0 hcs
    have hcv := conv_ownR (w := w1) (base := w.heap.size) (v := .slice none 0 0) (n := 0) (l := []) (World.ownsRow_nil _ _ _ _)
    go_wp2_with fail
    go_loop [3, 5] (fun b i => b = .slice none 0 0 ∧ i = .int .i64 0) (fun _ _ => 0)
    case atStart => exact ⟨rfl, rfl⟩
    case round =>
      obtain ⟨rfl, rfl⟩ := hrel
      go_wp2_with fail
      go_ret
      exact ⟨by rw [HR.out]; rfl, hb0⟩
  · go_wp2_with fail
    go_loopw [3, 5] (fun b i wr => ∃ (k : Nat) (ys : List UInt8), i = .int .i64 (k : Int) ∧ k ≤ cs.length ∧ ys.length ≤ 4 * k ∧ wr.ownsRow w.heap.size 5 1 b ys.length (bv ys) ∧ wr.ownsRow w.heap.size 3 1 (.slice (some ⟨g, 0, none⟩) cs.length cap) cs.length (ints cs) ∧ Below w.heap.size w wr ∧ Hid (ys = (cs.take k).flatMap encL)) (fun _ i _ => cs.length - (intOf i).toNat)
    case atStart => exact ⟨0, [], rfl, Nat.zero_le _, Nat.le_refl _, World.ownsRow_nil _ _ _ _, hown0, hb0, rfl⟩
    case round =>
      obtain ⟨k, ys, rfl, hk, hyk, hown, hcs, hb, hys⟩ := hrel
      by_cases hlt : k < cs.length
      · obtain ⟨c, hc⟩ : ∃ c, cs[k]? = some c := ⟨_, List.getElem?_eq_getElem hlt⟩
        have hcell := hcs.cells (g := g) rfl k (.int .i64 c) (by simp [ints, hc])
        rw [show (⟨g, 0, none⟩ : Addr).add k = ⟨g, k, none⟩ by unfold Addr.add; split <;> simp_all] at hcell
        have hgc := HG.out c (List.mem_of_getElem? hc)
        obtain ⟨hcn, hcb⟩ := good_nat hgc
        have cE := encode_ok c.toNat (by rw [hcn]; exact hgc)
        rw [hcn] at cE
        have hnx := hide (show ys ++ encR c.toNat = (cs.take (k + 1)).flatMap encL by rw [List.take_add_one, hc, hys.out]; simp [encL_good hgc])
        have hel := (encR_len c.toNat).2
        generalize encR c.toNat = t at cE hnx hel
        have cE := hide cE
        have hsz : (⟨t.toArray⟩ : ByteArray).size = t.length := mk_size t
        have HZ := hide hsz
        have hkm : (k : Int) < (cs.length : Int) := by omega
        clear hgc hcn hcb hc hsz
        go_wp2_with fail
        refine (cE.out _).mono ?_
        rintro e w2 ⟨rfl, hb2⟩
        have hown2 := own_keep hown hb2
        have hcs2 := own_keep hcs hb2
        have hbb := hb.trans (hb2.mono hb.size)
        have hbz := hbb.size
        clear hown hb hb2 hcs hcell
        go_wp2_with (at_builtin; refine Lib.wpList_append_own_string _ rfl _ _ 78 9 rfl w.heap.size 5 i0 Tryd.underlying78 Tryd.underlying9 hi hz0 hz1 hz2 _ _ _ rfl hown2 ⟨t.toArray⟩ rfl (by rw [HZ.out]; unfold maxLen; omega) (by rw [HZ.out]; omega) hbz ?_)
        intro v' w3 hown' hgrow _
        have hb' := grow_stepS hown2 hbb hbz hgrow
        have hcs' := own_kept_other hcs2 hown2 (by decide) hgrow
        have HO := hide (show w3.ownsRow w.heap.size 5 1 v' (ys ++ t).length (bv (ys ++ t)) by rw [bv_app, List.length_append, ← HZ.out]; exact hown')
        clear hown' hgrow hown2 hys hcs2
        go_wp2_with fail
        go_roundw
        case rel => exact ⟨k + 1, ys ++ t, by go_num, by omega, by simp; omega, HO, hcs', hb', hnx⟩
        case measure => simp [intOf]; omega
      · have hk2 : k = cs.length := by omega
        have hR : ys = R := by rw [hrep.out, hys.out, hk2, List.take_length]
        subst hR
        have hcv := conv_ownR hown
        clear hk2 hown hcs hys
        go_wp2_with fail
        go_ret
        exact ⟨rfl, hb⟩
end Go.Proofs.YtdnmgpidfjkiaaaDoor
