/-
  jstext.Decode at escaped texts; jstext.Safe.
-/
import Derived.Test.YtdnmgpidfjkiaaaDoorJsOne
import Derived.Test.YtdnmgpidfjkiaaaDoorFuncB
import Derived.Test.YtdnmgpidfjkiaaaDoorPctEnc
namespace Go.Proofs.YtdnmgpidfjkiaaaDoor
open Go.RowKit
set_option linter.unusedVariables false
set_option linter.unusedSimpArgs false

/-- What may stand behind an escaped text. -/
def Tail (t : List UInt8) : Prop := t = [] ∨ t = [92] ∨ ∃ x r, t = x :: r ∧ (x = 34 ∨ x = 10)
def flatQ (cs : List Int) : List UInt8 := cs.flatMap quoteI
def flatE (cs : List Int) : List UInt8 := cs.flatMap encL
theorem flatQ_next (cs : List Int) (k m : Nat) (hc : cs[k]? = some (m : Int)) : flatQ (cs.take (k + 1)) = flatQ (cs.take k) ++ quoteC m ∧ flatE (cs.take (k + 1)) = flatE (cs.take k) ++ encL (m : Int) := by
  unfold flatQ flatE
  rw [List.take_add_one, hc]
  simp [quoteI]
theorem flatQ_drop (cs : List Int) (t : List UInt8) (k : Nat) : (flatQ cs ++ t).drop (flatQ (cs.take k)).length = flatQ (cs.drop k) ++ t := by
  have h : flatQ cs = flatQ (cs.take k) ++ flatQ (cs.drop k) := by
    unfold flatQ
    rw [← List.flatMap_append, List.take_append_drop]
  rw [h, List.append_assoc, List.drop_left]
theorem flatQ_here (cs : List Int) (k m : Nat) (hc : cs[k]? = some (m : Int)) : flatQ (cs.drop k) = quoteC m ++ flatQ (cs.drop (k + 1)) := by
  obtain ⟨hk, e⟩ := List.getElem?_eq_some_iff.1 hc
  unfold flatQ
  rw [List.drop_eq_getElem_cons hk, e, List.flatMap_cons]
  rfl
theorem get_of_drop {l : List UInt8} {k : Nat} {x : UInt8} {r : List UInt8} (h : l.drop k = x :: r) : ∃ hlz : k < (⟨l.toArray⟩ : ByteArray).size, (⟨l.toArray⟩ : ByteArray)[k]'hlz = x := by
  have hlt : k < l.length := by
    have := congrArg List.length h
    rw [List.length_drop] at this
    simp at this; omega
  refine ⟨by rw [mk_size]; exact hlt, ?_⟩
  show l[k] = x
  have := List.drop_eq_getElem_cons hlt
  rw [h] at this
  exact (List.cons.inj this).1.symm
set_option maxHeartbeats 4000000 in
set_option maxRecDepth 100000 in
theorem jsDecode_at (cs : List Int) (t : List UInt8) (ht : Tail t) (hgood : ∀ c ∈ cs, badC c = false) (w : World) (hz : cs.length ≤ 1000000000) (htz : t.length ≤ 1000) :
    Calls Tryd.prog 55 #[.string ⟨(flatQ cs ++ t).toArray⟩] w fun e w' => e = .returned (.tuple #[.string ⟨(if t = [] then flatE cs else []).toArray⟩, .int .i64 ((flatQ cs).length : Int), .int .i64 (if t = [] then 0 else 33)]) ∧ Below w.heap.size w w' := by
  have hfl := flatQ_len cs
  have hfl : (flatQ cs).length ≤ 12 * cs.length := hfl
  obtain ⟨l, hl⟩ : ∃ l, flatQ cs ++ t = l := ⟨_, rfl⟩
  have hll : l.length = (flatQ cs).length + t.length := by rw [← hl, List.length_append]
  have hdrop := fun k => flatQ_drop cs t k
  rw [hl] at hdrop ⊢
  have HG := hide hgood
  have HD := hide hdrop
  have HT := hide ht
  clear hgood hdrop ht hl
  have hzl : l.length ≤ 100000000000 := by omega
  have hzi : (l.length : Int) ≤ 100000000000 := by omega
  have hI0 := isBT_new 87 w w.heap.size (Nat.le_refl _)
  have hB0 := (Below.refl w.heap.size w).alloc (Nat.le_refl _) (.cells #[.pointer none, .slice none 0 0] 87)
  go_enter Tryd.func55, Tryd.ntmps55
  go_wp2_with fail
  generalize hW : w.alloc (.cells #[.pointer none, .slice none 0 0] 87) = W at hI0 hB0 ⊢
  clear hW
  go_loopw [6] (fun i wr => ∃ (k p : Nat) (ys : List UInt8), i = .int .i64 (p : Int) ∧ k ≤ cs.length ∧ p ≤ l.length ∧ ys.length ≤ 4 * k ∧ IsBT 87 w.heap.size w.heap.size ys wr ∧ Below w.heap.size w wr ∧ Hid (p = (flatQ (cs.take k)).length ∧ ys = flatE (cs.take k))) (fun i _ => l.length - (intOf i).toNat)
  case atStart => exact ⟨0, 0, [], rfl, Nat.zero_le _, Nat.zero_le _, Nat.zero_le _, hI0, hB0, rfl, rfl⟩
  case round =>
    obtain ⟨k, p, ys, rfl, hk, hpl, hyk, hI, hb, hrel⟩ := hrel
    have hbz := hb.size
    obtain ⟨hp, hys⟩ := hrel.out
    by_cases hlt : k < cs.length
    · obtain ⟨c, hc⟩ : ∃ c, cs[k]? = some c := ⟨_, List.getElem?_eq_getElem hlt⟩
      have hgc := HG.out c (List.mem_of_getElem? hc)
      obtain ⟨m, rfl⟩ : ∃ m : Nat, c = (m : Int) := ⟨c.toNat, (good_nat hgc).1.symm⟩
      have hm1 : m ≤ 1114111 := by have := (good_nat hgc).2; omega
      obtain ⟨hn1, hn2⟩ := flatQ_next cs k m hc
      have hd := HD.out k
      rw [flatQ_here cs k m hc, List.append_assoc, ← hp] at hd
      have hql := quoteC_len m
      have hpn : p + (quoteC m).length ≤ l.length := by
        rcases drop_len hd with h1 | h1
        · omega
        · rw [h1.1] at hql; simp at hql
      have hel : (encL (m : Int)).length ≤ 4 := encL_len _
      by_cases hpc : plainC m = true
      · obtain ⟨p1, p2, p3, p4, q1, q2, q3, q4, q5⟩ := plainC_octet m hpc
        have hnx := hide (show p + 1 = (flatQ (cs.take (k + 1))).length ∧ ys ++ [Go.Proofs.YtdnmgpidfjkiaaaDoor.u8 m] = flatE (cs.take (k + 1)) by
          rw [hn1, hn2, p1, List.length_append, ← hp, ← hys, encL_good hgc, Int.toNat_natCast, p2]
          exact ⟨rfl, rfl⟩)
        rw [p1] at hd hpn
        obtain ⟨hlz, hx⟩ := get_of_drop hd
        have hpi : (p : Int) < (l.length : Int) := by simp at hpn; omega
        have hpl2 : p + 1 ≤ l.length := by simpa using hpn
        have cB := btByte btBuilder w.heap.size w.heap.size ys (Go.Proofs.YtdnmgpidfjkiaaaDoor.u8 m) wr hI (by omega) hbz
        rw [p4] at cB
        have e1 : ((m : Int) == 92) = false := by simp; omega
        have e2 : ((m : Int) == 10) = false := by simp; omega
        have e3 : ((m : Int) == 13) = false := by simp; omega
        have e4 : ((m : Int) == 34) = false := by simp; omega
        have e5 : ((m : Int) == 39) = false := by simp; omega
        have hx2 : (((⟨l.toArray⟩ : ByteArray)[p]'hlz).toNat : Int) = (m : Int) := by rw [hx, p4]
        have cB := hide cB
        have hm256 : m < 128 := p3
        clear p1 p2 p3 p4 q1 q2 q3 q4 q5 hql hpn hn1 hn2 hd hrel hp hys hgc hc hx
        go_wp2_with (first | (go_at_call 60; refine (cB.out).mono ?_; rintro e w3 ⟨rfl, hI3, hb3, hs3⟩))
        go_roundw
        case rel => exact ⟨k + 1, p + 1, ys ++ [Go.Proofs.YtdnmgpidfjkiaaaDoor.u8 m], by go_num, by omega, by omega, by simp; omega, hI3, hb.trans hb3, hnx⟩
        case measure => simp [intOf]; omega
      · have hpf : plainC m = false := by simpa using hpc
        have cO := hide (fun w => jsOne_char l p m _ hd hpf hgc w hzl)
        obtain ⟨r, hr⟩ := quoteC_uni hpf
        have hd2 := hd
        rw [hr] at hd2
        obtain ⟨hlz, hx⟩ := get_of_drop hd2
        have hnx := hide (show p + (quoteC m).length = (flatQ (cs.take (k + 1))).length ∧ ys ++ encL (m : Int) = flatE (cs.take (k + 1)) by
          rw [hn1, hn2, List.length_append, ← hp, ← hys]; exact ⟨rfl, rfl⟩)
        have hpi : (p : Int) < (l.length : Int) := by omega
        generalize (quoteC m).length = qn at cO hnx hql hpn
        generalize encL (m : Int) = en at cO hnx hel
        have hqi : (qn : Int) ≤ 12 := by omega
        clear hr hd hd2 hn1 hn2 hrel hp hys hgc hc hpc hpf
        go_wp2_with fail
        refine (cO.out _).mono ?_
        rintro e w3 ⟨rfl, hb3⟩
        have hI3 := isBT_keep hI hb3
        have hB3 := hb.trans (hb3.mono hbz)
        go_wp2_with fail
        refine (btStr btBuilder w.heap.size w.heap.size ys en _ hI3 (by omega) hB3.size).mono ?_
        rintro e w4 ⟨⟨v, rfl⟩, hI4, hb4, _⟩
        have hB4 := hB3.trans hb4
        clear hI hI3 hb3 hB3 hb4 hb
        go_wp2_with fail
        go_roundw
        case rel => exact ⟨k + 1, p + qn, ys ++ en, by go_num, by omega, by omega, by simp; omega, hI4, hB4, hnx⟩
        case measure => simp [intOf]; omega
    · have hk2 : k = cs.length := by omega
      rw [hk2, List.take_length] at hp hys
      have hd := HD.out k
      rw [hk2, List.take_length, List.drop_length, ← hp] at hd
      have hd : l.drop p = t := by rw [hd]; rfl
      have HP := hide (And.intro hp hys)
      rcases HT.out with h0 | h0 | ⟨x, r, h0, hx34⟩
      · subst h0
        have hge : decide ((p : Int) < (l.length : Int)) = false := by
          have := congrArg List.length hd
          rw [List.length_drop] at this
          simp at this ⊢; omega
        have hpl3 : (l.length : Int) = (p : Int) := by
          have := congrArg List.length hd
          rw [List.length_drop] at this
          simp at this; omega
        clear hk2 hrel hp hys HD HT HG hd hll
        go_wp2_with fail
        refine (btString w.heap.size w.heap.size ys _ hI hbz).mono ?_
        rintro e w1 ⟨rfl, hb1⟩
        go_wp2_with fail
        go_ret3
        exact ⟨by rw [← HP.out.1, ← HP.out.2]; rfl, hb.trans hb1⟩
      · subst h0
        obtain ⟨hlz, hx⟩ := get_of_drop hd
        have hpl3 : l.length = p + 1 := by
          have := congrArg List.length hd
          rw [List.length_drop] at this
          simp at this; omega
        have hpi : (p : Int) < (l.length : Int) := by omega
        have cO := hide (fun w => jsOne_end l p (by omega) w (by omega))
        clear hk2 hrel hp hys HD HT HG hd hll
        go_wp2_with fail
        refine (cO.out _).mono ?_
        rintro e w3 ⟨rfl, hb3⟩
        go_wp2_with fail
        go_ret3
        exact ⟨by first | (rw [← HP.out.1]; rfl) | (rw [if_neg (by simp), if_neg (by simp), ← HP.out.1]; rfl), hb.trans (hb3.mono hbz)⟩
      · subst h0
        obtain ⟨hlz, hx⟩ := get_of_drop hd
        have hpl3 : p < l.length := by
          have := congrArg List.length hd
          rw [List.length_drop] at this
          simp at this; omega
        have hpi : (p : Int) < (l.length : Int) := by omega
        clear hk2 hrel hp hys HD HT HG hd hll
        rcases hx34 with rfl | rfl
        · go_wp2_with fail
          go_ret3
          exact ⟨by first | (rw [← HP.out.1]; rfl) | (rw [if_neg (by simp), if_neg (by simp), ← HP.out.1]; rfl), hb⟩
        · go_wp2_with fail
          go_ret3
          exact ⟨by first | (rw [← HP.out.1]; rfl) | (rw [if_neg (by simp), if_neg (by simp), ← HP.out.1]; rfl), hb⟩
/-- An escaped text says its characters. -/
theorem jsDecode_ok (s : List UInt8) (w : World) (hz : s.length ≤ 1000000000) :
    Calls Tryd.prog 55 #[.string ⟨(escR s).toArray⟩] w fun e w' => e = .returned (.tuple #[.string ⟨(repairR s).toArray⟩, .int .i64 ((escR s).length : Int), .int .i64 0]) ∧ Below w.heap.size w w' := by
  have hl := charsR_len s
  have := jsDecode_at (charsR s) [] (.inl rfl) (charsR_good s) w (by omega) (by simp)
  rw [List.append_nil, if_pos rfl, if_pos rfl] at this
  exact this
theorem jsDecode_bad (s t : List UInt8) (ht : Tail t) (h0 : t ≠ []) (htz : t.length ≤ 1000) (w : World) (hz : s.length ≤ 1000000000) :
    Calls Tryd.prog 55 #[.string ⟨(escR s ++ t).toArray⟩] w fun e w' => e = .returned (.tuple #[.string ⟨#[]⟩, .int .i64 ((escR s).length : Int), .int .i64 33]) ∧ Below w.heap.size w w' := by
  have hl := charsR_len s
  have := jsDecode_at (charsR s) t ht (charsR_good s) w (by omega) htz
  rw [if_neg h0, if_neg h0] at this
  exact this
def loudL : List UInt8 := [60, 62, 38, 39, 34, 47, 33, 45, 96, 10, 13, 0]
theorem quiet_loud (l : List UInt8) (h : l.all quietB = true) : (!(l.any fun c => loudL.any (· == c))) = true := by
  rw [Bool.not_eq_true', List.any_eq_false]
  intro c hc
  have := List.all_eq_true.1 h c hc
  unfold quietB at this
  simpa [loudL] using this
end Go.Proofs.YtdnmgpidfjkiaaaDoor
