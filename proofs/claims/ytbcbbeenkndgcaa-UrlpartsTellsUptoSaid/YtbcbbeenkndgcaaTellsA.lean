/-
  muslinlaw40.cut; muslinref06: number of two digits, Unpercent.
-/
import Derived.Test.YtbcbbeenkndgcaaPairs
import Derived.Test.YtbcbbeenkndgcaaRefPct
namespace Go.Proofs.Ytbcbbeenkndgcaa
open Go.RowKit
set_option linter.unusedVariables false
set_option linter.unusedSimpArgs false

theorem cutB_found (c : UInt8) (l : List UInt8) (k : Nat) (hk : k < l.length) (hc : l[k] = c) (h : c ∉ l.take k) : cutB c l = (l.take k, l.drop (k + 1), true) := by
  have e : l = l.take k ++ c :: l.drop (k + 1) := by rw [← hc, ← List.drop_eq_getElem_cons hk, List.take_append_drop]
  have : ∀ a b, c ∉ a → cutB c (a ++ c :: b) = (a, b, true) := by
    intro a b
    induction a with
    | nil => intro _; simp [cutB]
    | cons x a ih =>
      intro h
      have h1 : x ≠ c := fun e => h (by simp [e])
      simp only [List.cons_append, cutB]
      rw [if_neg (by simpa using h1), ih (fun e => h (by simp [e]))]
  conv => lhs; rw [e]
  exact this _ _ h
theorem notin_next {c : UInt8} {l : List UInt8} {k : Nat} (hk : k < l.length) (h : c ∉ l.take k) (hn : l[k] ≠ c) : c ∉ l.take (k + 1) := by
  rw [List.take_add_one, List.getElem?_eq_getElem hk]
  simp only [Option.toList, List.mem_append, List.mem_singleton, not_or]
  exact ⟨h, fun e => hn e.symm⟩
set_option maxHeartbeats 2000000 in
set_option maxRecDepth 100000 in
theorem lawCut_any (l : List UInt8) (c : UInt8) (w : World) (hz : l.length ≤ 1000000000) :
    Calls Try.prog 14 #[.string ⟨l.toArray⟩, .int .u8 (c.toNat : Int)] w fun e w' => e = .returned (.tuple #[.string ⟨(cutB c l).1.toArray⟩, .string ⟨(cutB c l).2.1.toArray⟩, .bool (cutB c l).2.2]) ∧ Below w.heap.size w w' := by
  go_enter Try.func14, Try.ntmps14
  go_wp2
  go_loop [7] (fun i => ∃ k : Nat, i = .int .i64 (k : Int) ∧ k ≤ l.length ∧ Hid (c ∉ l.take k)) (fun i => l.length - (intOf i).toNat)
  case atStart => exact ⟨0, rfl, Nat.zero_le _, by show c ∉ l.take 0; simp⟩
  case round =>
    obtain ⟨k, rfl, hk, hrel⟩ := hrel
    by_cases hlt : k < l.length
    · have hlz : k < (⟨l.toArray⟩ : ByteArray).size := by rw [mk_size]; exact hlt
      obtain ⟨x, hx⟩ : ∃ x, (⟨l.toArray⟩ : ByteArray)[k]'hlz = x := ⟨_, rfl⟩
      have hlx : l[k] = x := hx
      have hki : (k : Int) < (l.length : Int) := by omega
      by_cases h1 : x.toNat = c.toNat
      · have e1 : ((x.toNat : Int) == (c.toNat : Int)) = true := by simp; omega
        have hf := cutB_found c l k hlt (by rw [hlx]; exact UInt8.toNat_inj.1 h1) hrel.out
        have t1 : (⟨l.toArray⟩ : ByteArray).extract 0 k = ⟨(l.take k).toArray⟩ := Lib.extract_upto _ _
        have t2 : (⟨l.toArray⟩ : ByteArray).extract (k + 1) l.length = ⟨(l.drop (k + 1)).toArray⟩ := by
          have := Lib.extract_from (⟨l.toArray⟩ : ByteArray) (k + 1)
          rw [mk_size] at this
          exact this
        have HF := hide (show (⟨(cutB c l).1.toArray⟩ : ByteArray) = (⟨l.toArray⟩ : ByteArray).extract 0 k ∧ (⟨(cutB c l).2.1.toArray⟩ : ByteArray) = (⟨l.toArray⟩ : ByteArray).extract (k + 1) l.length ∧ (cutB c l).2.2 = true by rw [t1, t2, hf]; exact ⟨rfl, rfl, rfl⟩)
        have b1 : (0 : Int) ≤ (k : Int) := by omega
        have b2 : (k : Int) ≤ (l.length : Int) := by omega
        have b3 : (0 : Int) ≤ (k : Int) + 1 := by omega
        have b4 : (k : Int) + 1 ≤ (l.length : Int) := by omega
        have b5 : ((k : Int) + 1).toNat = k + 1 := by omega
        have b6 : IntKind.i64.wrap ((k : Int) + 1) = (k : Int) + 1 := IntWalk.i64_in _ (by omega)
        clear h1 hlx hf t1 t2
        go_wp2_with fail
        go_quiet (fail)
        go_wp2_with fail
        go_ret3
        exact ⟨by rw [HF.out.1, HF.out.2.1, HF.out.2.2]; rfl, below_drewN (Below.refl _ _) nq⟩
      · have e1 : ((x.toNat : Int) == (c.toNat : Int)) = false := by simp; omega
        have hn := hide (notin_next hlt hrel.out (by rw [hlx]; intro e; exact h1 (by rw [e])))
        clear h1 hlx
        go_wp2_with fail
        go_round
        case rel => exact ⟨k + 1, by go_num, by omega, hn⟩
        case measure => simp [intOf]; omega
    · have hk2 : k = l.length := by omega
      have HF := hide (show cutB c l = (l, [], false) by
        have h1 : c ∉ l := by have := hrel.out; rw [hk2, List.take_length] at this; exact this
        rcases Bool.eq_false_or_eq_true (cutB c l).2.2 with h | h
        · have := cutB_back c l
          rw [if_pos h] at this
          exact absurd (by rw [← this]; simp) h1
        · obtain ⟨g1, g2⟩ := cutB_none c l h
          exact Prod.ext g1 (Prod.ext g2 h))
      clear hk2 hrel
      go_wp2_with fail
      go_ret3
      exact ⟨by rw [HF.out]; rfl, Below.refl _ _⟩
theorem refUnhexL_any (l : List UInt8) (w : World) (hl : l.length ≤ 1000000000) :
    Calls Try.prog 42 #[.string ⟨l.toArray⟩] w fun e w' => e = .returned (.tuple #[.int .i64 (pUnhex l).1, .int .i64 (pUnhex l).2]) ∧ w = w' :=
  refUnhex_any ⟨l.toArray⟩ w (by rw [mk_size]; omega)
theorem pUnhex1 (a : UInt8) (h : hexB a = true) : pUnhex [a] = ((((hexV a).toNat : Nat) : Int), (0 : Int)) := by
  rw [hexB_V] at h
  unfold pUnhex
  simp at h
  simp [hexFrom, isHex, h]
set_option maxHeartbeats 1000000 in
set_option maxRecDepth 100000 in
theorem number2_any (s : ByteArray) (a b : UInt8) (hs : s = ⟨[a, b].toArray⟩) (ha : hexB a = true) (hb : hexB b = true) (w : World) :
    Calls Try.prog 27 #[.string s, .int .i64 16] w fun e w' => e = .returned (.int .i64 (hexOf [a, b] : Nat)) ∧ w = w' := by
  have z1 : s.size = 2 := by rw [hs]; rfl
  have z2 : (s.size : Int) = 2 := by omega
  have x1 : s.extract 0 1 = ⟨[a].toArray⟩ := by rw [hs, Lib.extract_mk]; rfl
  have x2 : s.extract 1 2 = ⟨[b].toArray⟩ := by rw [hs, Lib.extract_mk]; rfl
  have c1 := fun w => refUnhexL_any [a] w (by simp)
  have c2 := fun w => refUnhexL_any [b] w (by simp)
  rw [pUnhex1 a ha, ← x1] at c1
  rw [pUnhex1 b hb, ← x2] at c2
  have hva := hexV_range a
  have hvb := hexV_range b
  have hh : hexOf [a, b] = (hexV a).toNat * 16 + (hexV b).toNat := rfl
  generalize hA : (hexV a).toNat = va at c1 hh
  generalize hB : (hexV b).toNat = vb at c2 hh
  have va16 : (va : Int) ≤ 15 := by omega
  have vb16 : (vb : Int) ≤ 15 := by omega
  rw [hh]
  have c1 := hide c1; have c2 := hide c2
  have HX := hide (And.intro x1 (And.intro x2 (And.intro hs (And.intro z1 (And.intro hA hB)))))
  clear hs x1 x2 hh hva hvb hA hB z1
  go_enter Try.func27, Try.ntmps27
  go_wp2
  go_loop [5, 6] (fun n i => (i = .int .i64 0 ∧ n = .int .i64 0) ∨ (i = .int .i64 1 ∧ n = .int .i64 (va : Int)) ∨ (i = .int .i64 2 ∧ n = .int .i64 ((va : Int) * 16 + (vb : Int)))) (fun _ i => 2 - (intOf i).toNat)
  case atStart => exact .inl ⟨rfl, rfl⟩
  case round =>
    rcases hrel with ⟨rfl, rfl⟩ | ⟨rfl, rfl⟩ | ⟨rfl, rfl⟩
    · go_wp2_with (go_at_call 42; refine (c1.out _).mono ?_; rintro e w1 ⟨rfl, rfl⟩)
      go_round
      case rel => exact .inr (.inl ⟨rfl, by simp⟩)
      case measure => simp [intOf]
    · go_wp2_with (go_at_call 42; refine (c2.out _).mono ?_; rintro e w1 ⟨rfl, rfl⟩)
      go_round
      case rel => exact .inr (.inr ⟨rfl, by simp⟩)
      case measure => simp [intOf]
    · go_wp2_with fail
      go_ret
      exact ⟨by simp, rfl⟩
set_option maxHeartbeats 4000000 in
set_option maxRecDepth 100000 in
theorem refUnpercent_any (l : List UInt8) (w : World) (hz : l.length ≤ 100000000) :
    Calls Try.prog 15 #[.string ⟨l.toArray⟩] w fun e w' => e = .returned (.tuple #[.string ⟨(if (unp l).2.2 then (unp l).1 else []).toArray⟩, .int .i64 (if (unp l).2.2 then (l.length : Int) else ((unp l).2.1 : Int)), .int .i64 (if (unp l).2.2 then 0 else 33)]) ∧ Below w.heap.size w w' := by
  obtain ⟨i0, hi, hz0, hz1, hz2⟩ := info_parts info_u8R
  have hst := hide (UnpRel.start l)
  obtain ⟨ok, hok⟩ : ∃ b, (unp l).2.2 = b := ⟨_, rfl⟩
  rw [hok]
  have HOK := hide hok
  clear hok
  go_enter Try.func15, Try.ntmps15
  go_wp2_with fail
  go_loopw [5, 6] (fun b i wr => ∃ (k : Nat) (ys : List UInt8), i = .int .i64 (k : Int) ∧ k ≤ l.length ∧ ys.length ≤ k ∧ wr.ownsRow w.heap.size 5 1 b ys.length (bv ys) ∧ Below w.heap.size w wr ∧ Hid (UnpRel l k ys)) (fun _ i _ => l.length - (intOf i).toNat)
  case atStart => exact ⟨0, [], rfl, Nat.zero_le _, Nat.le_refl _, World.ownsRow_nil _ _ _ _, Below.refl _ _, hst⟩
  case round =>
    obtain ⟨k, ys, rfl, hk, hyk, hown, hb, hrel⟩ := hrel
    have hbz := hb.size
    by_cases hlt : k < l.length
    · have hlz : k < (⟨l.toArray⟩ : ByteArray).size := by rw [mk_size]; exact hlt
      obtain ⟨x, hx⟩ : ∃ x, (⟨l.toArray⟩ : ByteArray)[k]'hlz = x := ⟨_, rfl⟩
      have hlx : l[k] = x := hx
      have hki : (k : Int) < (l.length : Int) := by omega
      rcases Bool.eq_false_or_eq_true ((x.toNat : Int) != 37) with h1 | h1
      · have hn : (x != 37) = true := by
          simp at h1 ⊢
          intro h; apply h1; rw [h]; rfl
        have HN := hide (hrel.out.keep hlt hlx hn)
        clear hn hlx
        go_wp2_with (at_builtin; refine wpList_append_own _ rfl _ _ 45 rfl w.heap.size 5 i0 (.int .u8 0) 1 1 Try.underlying45 hi hz0 hz1 hz2 rfl (by decide) _ _ _ rfl (hown.alloc _) ⟨wr.heap.size, 0, none⟩ 1 1 [.int .u8 (x.toNat : Int)] rfl rfl (by intro j u hj; match j, hj with | 0, hj => simp at hj; subst hj; simp [Addr.add]) (by intro u hu; simp at hu; subst hu; rfl) (by unfold maxLen; omega) (by omega) (by simp; omega) ?_; intro v' w3 hown' hgrow _)
        have hb' := grow_stepR hown hb hbz hgrow
        have HO := hide (show w3.ownsRow w.heap.size 5 1 v' (ys ++ [x]).length (bv (ys ++ [x])) by simpa [bv] using hown')
        clear hown' hgrow hown hrel
        go_wp2_with fail
        go_roundw
        case rel => exact ⟨k + 1, ys ++ [x], by go_num, by omega, by simp; omega, HO, hb', HN⟩
        case measure => simp [intOf]; omega
      · have hn : (x != 37) = false := by
          simp at h1 ⊢
          apply UInt8.toNat_inj.1
          show x.toNat = 37
          omega
        have cK := hide (fun w => refCoded_any l k w (by omega) hlt)
        rw [drop_cons l k hlt, hlx] at cK
        rcases Bool.eq_false_or_eq_true (codedB (x :: l.drop (k + 1))) with hc | hc
        · rw [hc] at cK
          have h2r := codedB_len hc
          rw [List.length_drop] at h2r
          obtain ⟨a, b, t1, t2⟩ := two_of l k (by omega)
          have hab : hexB a = true ∧ hexB b = true := by
            have := (t2 x).1
            rw [hc] at this
            have := this.symm
            simp only [Bool.and_eq_true] at this
            exact this.2
          have hcode := hrel.out.code hlt hlx hn hc
          have cU := fun w => number2_any ((⟨l.toArray⟩ : ByteArray).extract (k + 1) (k + 3)) a b (by rw [cut_two l k (by omega), t1]) hab.1 hab.2 w
          rw [← (t2 x).2] at cU
          have hlt2 := hexOf_lt (l.drop (k + 1))
          generalize hexOf (l.drop (k + 1)) = n at cU hcode hlt2
          have cU := hide cU
          have hn256 : (UInt8.ofNat n).toNat = n := by rw [UInt8.toNat_ofNat']; omega
          have HN := hide hcode
          have g3 : (k : Int) + 3 ≤ (l.length : Int) := by omega
          have gn0 : (0 : Int) ≤ (n : Int) := by omega
          have gn1 : (n : Int) < 256 := by omega
          have HV := hide (show bv (ys ++ [UInt8.ofNat n]) = bv ys ++ [.int .u8 (n : Int)] by simp [bv, hn256])
          clear hn hlx hc t1 t2 hab hcode h2r hn256
          go_wp2_with (first | (go_at_call 26; refine (cK.out _).mono ?_; rintro e w1 ⟨rfl, rfl⟩) | (go_at_call 27; refine (cU.out _).mono ?_; rintro e w2 ⟨rfl, rfl⟩) | (at_builtin; refine wpList_append_own _ rfl _ _ 45 rfl w.heap.size 5 i0 (.int .u8 0) 1 1 Try.underlying45 hi hz0 hz1 hz2 rfl (by decide) _ _ _ rfl (hown.alloc _) ⟨wr.heap.size, 0, none⟩ 1 1 [.int .u8 (n : Int)] rfl rfl (by intro j u hj; match j, hj with | 0, hj => simp at hj; subst hj; simp [Addr.add]) (by intro u hu; simp at hu; subst hu; rfl) (by unfold maxLen; omega) (by omega) (by simp; omega) ?_; intro v' w3 hown' hgrow _))
          have hb' := grow_stepR hown hb hbz hgrow
          have HO := hide (show w3.ownsRow w.heap.size 5 1 v' (ys ++ [UInt8.ofNat n]).length (bv (ys ++ [UInt8.ofNat n])) by rw [HV.out, List.length_append]; exact hown')
          clear hown' hgrow hown hrel
          go_wp2_with fail
          go_roundw
          case rel => exact ⟨k + 3, ys ++ [UInt8.ofNat n], by go_num, by omega, by simp; omega, HO, hb', HN⟩
          case measure => simp [intOf]; omega
        · rw [hc] at cK
          obtain ⟨hb1, hb2⟩ := hrel.out.bad hlt hlx hn hc
          have HF := hide hb1
          have HOK2 : ok = false := by rw [← HOK.out]; exact hb2
          subst HOK2
          clear hn hlx hc hb1 hb2
          go_wp2_with (go_at_call 26; refine (cK.out _).mono ?_; rintro e w1 ⟨rfl, rfl⟩)
          go_ret3
          exact ⟨by rw [HF.out]; rfl, hb⟩
    · have hk2 : k = l.length := by omega
      obtain ⟨h1, h2⟩ := hrel.out.end_ hk2
      have HF := hide h1
      have HOK2 : ok = true := by rw [← HOK.out]; exact h2
      subst HOK2
      have hcv := conv_ownR hown
      clear h1 h2 hk2 hown hrel
      go_wp2_with fail
      go_ret3
      exact ⟨by rw [HF.out]; rfl, hb⟩
end Go.Proofs.Ytbcbbeenkndgcaa
