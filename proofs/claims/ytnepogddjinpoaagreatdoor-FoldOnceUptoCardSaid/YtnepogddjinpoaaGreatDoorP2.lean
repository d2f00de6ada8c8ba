/-
  PLAIN LAWS of many texts, in one.
-/
import Derived.Test.YtnepogddjinpoaaGreatDoorP1
import Derived.Test.YtnepogddjinpoaaGreatDoorOct
import Derived.Lib.TrimByte
import Derived.Test.YtnepogddjinpoaaGreatDoorM2
import Derived.Test.YtnepogddjinpoaaGreatDoorQB
import Derived.RegionTactic
import Derived.Outline
import Derived.IntWalk
import Derived.OwnWalk
import Derived.Deep.OwnRows
import Derived.Lib.AppendStr
import Derived.Test.YtnepogddjinpoaaGreatDoorP14
import Derived.Test.YtnepogddjinpoaaGreatDoorRefChr
import Derived.Test.YtnepogddjinpoaaGreatDoorBuildT
import Derived.Test.YtnepogddjinpoaaGreatDoorC2
import Derived.Test.YtnepogddjinpoaaGreatDoorStr
import Derived.Lib.MinMax
import Derived.Test.YtnepogddjinpoaaGreatDoorFuncB
namespace Go.Proofs.YtnepogddjinpoaaGreatDoor
open Go.RowKit
set_option linter.unusedVariables false
set_option linter.unusedSimpArgs false

end Go.Proofs.YtnepogddjinpoaaGreatDoor

namespace Go.Proofs.YtnepogddjinpoaaGreatDoor
open Go.RowKit
set_option linter.unusedVariables false
set_option linter.unusedSimpArgs false

end Go.Proofs.YtnepogddjinpoaaGreatDoor

namespace Go.Proofs.YtnepogddjinpoaaGreatDoor
open Go.RowKit
set_option linter.unusedVariables false
set_option linter.unusedSimpArgs false

end Go.Proofs.YtnepogddjinpoaaGreatDoor

namespace Go.Proofs.YtnepogddjinpoaaGreatDoor
open Go.RowKit
set_option linter.unusedVariables false
set_option linter.unusedSimpArgs false

theorem info_i64 : (Tryz.prog.info? 3).map (fun i => (i.zero, i.size, i.bytes)) = some (some (.int .i64 0), 1, 8) := by kernel_rfl
abbrev ints (xs : List Int) : List Value := xs.map (Value.int .i64)
end Go.Proofs.YtnepogddjinpoaaGreatDoor

namespace Go.Proofs.YtnepogddjinpoaaGreatDoor
open Go.RowKit Go.Shelf
attribute [local go_sem] Oper.semAt_some
set_option linter.unusedVariables false
set_option linter.unusedSimpArgs false

/-- What AppendSeq keeps between two rounds: the box at Bs holds a slice that owns what has come. -/
def AppI (wB : World) (Bs p : Nat) (pre : List Int) (W : World) : Prop :=
  (∃ v, Blk W Bs 113 #[v] ∧ W.ownsRow wB.heap.size 3 1 v pre.length (ints pre)) ∧ Below wB.heap.size wB W ∧ ∃ u, Blk W p 9 #[u]
theorem own_noncell {U V : World} {B n : Nat} {e : TypeId} {v : Value} {xs : List Value} {row : Option Nat} (h : U.ownsRow B e 1 v n xs) (hg : U.grownBy V row) (hr : ∀ r, row = some r → ∃ o : Obj, U.heap[r]? = some o ∧ ∀ c t fz, o ≠ .cells c t fz) : V.ownsRow B e 1 v n xs := by
  refine h.kept hg ?_
  rcases h.2 with ⟨rfl, _⟩ | ⟨g, cap, cur, rfl, _, hg', _⟩
  · exact .inl rfl
  · right
    intro e2
    obtain ⟨o, ho, hc⟩ := hr g e2.symm
    rw [hg'] at ho
    exact hc _ _ _ (Option.some.inj ho).symm
theorem own_setFar {U : World} {B n p : Nat} {e T : TypeId} {v : Value} {xs : List Value} {cs : Array Value} (h : U.ownsRow B e 1 v n xs) (hp : Blk U p T cs) (hT : T ≠ e) (u : Value) : (U.setCell ⟨p, 0, none⟩ u).ownsRow B e 1 v n xs := by
  refine ⟨h.1, ?_⟩
  rcases h.2 with hn | ⟨g, cap, cur, hv, hB2, hg', rest⟩
  · exact .inl hn
  · refine .inr ⟨g, cap, cur, hv, hB2, (Below.heap_setCell U ⟨p, 0, none⟩ u g ?_).trans hg', rest⟩
    intro e2
    have e' : g = p := e2
    subst e'
    unfold Blk at hp
    rw [hg'] at hp
    injection hp with hp
    injection hp with h1 h2 h3
    exact hT h2.symm
set_option maxHeartbeats 4000000 in
set_option maxRecDepth 100000 in
theorem appendSeq_in (l : List UInt8) (hz : l.length ≤ 1000000000) (wB w : World) (hT : Lib.Utf8Tabs 1 2 wB) (p : Nat) (hp : wB.heap.size ≤ p) (hpw : p < w.heap.size) (hB0 : Below wB.heap.size wB w) (hbox : Blk w p 9 #[.string ⟨l.toArray⟩]) :
    CallsIn Fence.wide 6 Tryz.prog 233 #[.slice none 0 0, .func (.func 207) #[] #[.pointer (some ⟨p, 0, none⟩)]] w fun e w' => ∃ v, e = .returned v ∧ w'.ownsRow wB.heap.size 3 1 v (charsR l).length (ints (charsR l)) ∧ Below wB.heap.size wB w' := by
  obtain ⟨i0, hi, hz0, hz1, hz2⟩ := info_parts info_i64
  have hcl := charsR_len l
  refine callsIn_of_wp_marks Tryz.func233 rfl trivial ?_
  simp only [Tryz.ntmps233, List.size_toArray, List.length_cons, List.length_nil, Nat.reduceAdd, Nat.reduceSub, Array.replicate_succ, Array.replicate_zero, List.push_toArray, List.append_toArray, List.nil_append, List.cons_append]
  gi_wp2
  obtain ⟨w2, hw2⟩ : ∃ W, w.alloc (Obj.cells #[Value.slice none 0 0] 113) = W := ⟨_, rfl⟩
  rw [hw2]
  have hsz : w2.heap.size = w.heap.size + 1 := by rw [← hw2]; simp
  have hBw := hB0.size
  have hB2 : Below wB.heap.size wB w2 := by rw [← hw2]; exact hB0.alloc hB0.size _
  have hbox2 : Blk w2 p 9 #[.string ⟨l.toArray⟩] := by rw [← hw2]; exact (Below.heap_alloc _ _ p hpw).trans hbox
  have hbs : Blk w2 w.heap.size 113 #[.slice none 0 0] := by
    have := Blk.new w 113 #[Value.slice none 0 0]
    rw [hw2] at this
    exact this
  clear hw2
  refine wpIn_range_stores rfl (by omega) (gf := 207) (lb := #[.pointer (some ⟨p, 0, none⟩)]) rfl trivial (enters_of Tryz.func207 (by kernel_rfl) rfl)
    (each_stores 5 (by omega) p l hz wB w2 hT hB2 hp hbox2) (by omega) (Below.refl _ _) ?kt ?kb (AppI wB w.heap.size p) ?own ?sto ⟨⟨_, hbs, World.ownsRow_nil _ _ _ _⟩, hB2, _, hbox2⟩
    (fun x => { tmps := #[.slice none 0 0, .func (.func 207) #[] #[.pointer (some ⟨p, 0, none⟩)], .pointer (some ⟨w.heap.size, 0, none⟩), undef, .slice none 0 0, .int .i64 x, .func (.func 207) #[] #[.pointer (some ⟨p, 0, none⟩)], .int .i64 x, undef, undef, undef, undef, undef], defers := [] }) ?assign ?body ?done
  case kt => exact fun k1 k2 => ⟨k2.1.trans k1.1, k1.2.trans k2.2⟩
  case kb =>
    intro W i o o' hi ho
    have := lt_of_heap ho
    exact ⟨World.putObj_heap_other (by omega), (Below.refl _ W).grown (grownBy_putObj' W i o') (by omega) (fun k e => by cases e; omega)⟩
  case own =>
    rintro s U V row ⟨⟨v, h1, h1'⟩, h2, u, h3⟩ hg hr
    have hr' : ∀ r, row = some r → ∃ o : Obj, U.heap[r]? = some o ∧ ∀ c t fz, o ≠ .cells c t fz := fun r e => by
      obtain ⟨_, o, ho, hc⟩ := hr r e
      exact ⟨o, ho, fun c t fz e2 => by rw [e2] at hc; cases hc⟩
    refine ⟨⟨v, h1.grown hg ?_, own_noncell h1' hg hr'⟩, h2.grown hg h2.size (fun k e => by have := (hr k e).1; omega), u, h3.grown hg ?_⟩
    · intro e
      have := (hr _ e.symm).1
      omega
    · intro e
      have := (hr _ e.symm).1
      omega
  case sto =>
    rintro s U v ⟨⟨v0, h1, h1'⟩, h2, u, h3⟩
    exact ⟨⟨v0, (Below.heap_setCell U ⟨p, 0, none⟩ v w.heap.size (by show w.heap.size ≠ p; omega)).trans h1, own_setFar h1' h3 (by decide) v⟩, h2.setCell (p := ⟨p, 0, none⟩) hp v, _, h3.set_ 0 v⟩
  case assign =>
    intro lp x W K hK
    gi_wp2
    exact hK
  case body =>
    rintro lp pre x rest W hx ⟨⟨v, hbx, hown⟩, hbw, u, hblk⟩
    have hpl : pre.length + 1 ≤ 1000000000 := by
      have := congrArg List.length hx
      simp at this
      omega
    have hc := hbx.cell 0
    have hf := hbx.frozen 0
    simp at hc
    have hwz := hbw.size
    gi_wp2_with (gi_at_builtin; refine wpListIn_append_own _ rfl _ _ 113 rfl wB.heap.size 3 i0 (.int .i64 0) 1 8 Tryz.underlying113 hi hz0 hz1 hz2 rfl (by decide) _ _ _ rfl (hown.alloc _) ⟨W.heap.size, 0, none⟩ 1 1 [.int .i64 x] rfl rfl (by intro j u hj; match j, hj with | 0, hj => simp at hj; subst hj; simp [Addr.add]) (by intro u hu; simp at hu; subst hu; rfl) (by unfold maxLen; omega) (by omega) (by simp; omega) ?_)
    intro v' w3 hown' hgrow _
    have hne1 := own_block_ne hown hbx (fun c fz e => by injection e with e1 e2 e3; exact absurd e2 (by decide))
    have hne2 := own_block_ne hown hblk (fun c fz e => by injection e with e1 e2 e3; exact absurd e2 (by decide))
    have hbx3 : Blk w3 w.heap.size 113 #[v] := (hgrow.block _ (by have := lt_of_heap hbx; simp; omega) (fun e => hne1 e.symm)).trans ((Below.heap_alloc _ _ _ (lt_of_heap hbx)).trans hbx)
    have hb3 : Below wB.heap.size W w3 := ((Below.refl _ W).alloc hwz _).grown hgrow (by simp; omega) (fun k e => (hown.lt k e).1)
    have hc3 := hbx3.cell 0
    have hf3 := hbx3.frozen 0
    simp at hc3
    have hold : ∀ (k : Nat) (o : Obj), W.heap[k]? = some o → (∀ c fz, o ≠ .cells c 3 fz) → w3.heap[k]? = some o := fun k o hk ho =>
      (hgrow.block k (by have := lt_of_heap hk; simp; omega) (fun e => own_block_ne hown hk ho e.symm)).trans ((Below.heap_alloc _ _ k (lt_of_heap hk)).trans hk)
    have hpB : p ≠ w.heap.size := by omega
    obtain ⟨g', cap', rfl⟩ : ∃ g' cap', v' = .slice (some ⟨g', 0, none⟩) (pre.length + 1) cap' := by
      rcases hown'.2 with ⟨_, h0⟩ | ⟨g', cap', cur', hv', _⟩
      · exact absurd h0 (by simp)
      · exact ⟨g', cap', hv'⟩
    gi_wp2
    have hblk3 : Blk w3 p 9 #[u] := hold p _ hblk (fun c fz e => by injection e with e1 e2 e3; exact absurd e2 (by decide))
    have hset : ∀ k, k ≠ w.heap.size → (w3.setCell ⟨w.heap.size, 0, none⟩ (.slice (some ⟨g', 0, none⟩) (pre.length + 1) cap')).heap[k]? = w3.heap[k]? := fun k hk => Below.heap_setCell w3 ⟨w.heap.size, 0, none⟩ (.slice (some ⟨g', 0, none⟩) (pre.length + 1) cap') k hk
    refine ⟨fun k o hk ho => (hset k ?_).trans (hold k o hk (fun c fz e => by rw [e] at ho; cases ho)), ⟨(hset p hpB).trans (hblk3.trans hblk.symm), hb3.setCell (p := ⟨w.heap.size, 0, none⟩) hBw _⟩, ⟨⟨(.slice (some ⟨g', 0, none⟩) (pre.length + 1) cap'), by simpa using hbx3.set_ 0 (.slice (some ⟨g', 0, none⟩) (pre.length + 1) cap'), ?_⟩, (hbw.trans (hb3.mono (Nat.le_refl _))).setCell (p := ⟨w.heap.size, 0, none⟩) hBw _, u, (hset p hpB).trans hblk3⟩⟩
    · intro e
      subst e
      rw [hbx] at hk
      cases hk; cases ho
    · have h5 : w3.ownsRow wB.heap.size 3 1 (.slice (some ⟨g', 0, none⟩) (pre.length + 1) cap') (pre ++ [x]).length (ints (pre ++ [x])) := by simpa [ints] using hown'
      exact own_setFar h5 hbx3 (by decide) (.slice (some ⟨g', 0, none⟩) (pre.length + 1) cap')
  case done =>
    rintro D W hD ⟨⟨v, hbx, hown⟩, hbw, u, hblk⟩ hK
    have hc := hbx.cell 0
    have hf := hbx.frozen 0
    simp at hc
    gi_wp2
    refine ⟨by simp, .inl ⟨_, _, rfl, run_takeDeferred hK, ?_⟩⟩
    have hlt := lt_of_heap hK
    refine ⟨_, results_tmp rfl _ _ _, _, rfl, ?_, hbw.grown (grownBy_putObj' W D _) (by have := hbw.size; omega) (fun k e => by cases e; omega)⟩
    exact own_noncell hown (grownBy_putObj' W D _) (fun r e => by cases e; exact ⟨_, hK, fun c t fz e => by cases e⟩)
set_option maxHeartbeats 1000000 in
set_option maxRecDepth 100000 in
theorem chars_any (l : List UInt8) (w : World) (hz : l.length ≤ 1000000000) (hT : Lib.Utf8Tabs 1 2 w) :
    Calls Tryz.prog 167 #[.string ⟨l.toArray⟩] w fun e w' => ∃ v, e = .returned v ∧ w'.ownsRow w.heap.size 3 1 v (charsR l).length (ints (charsR l)) ∧ Below w.heap.size w w' := by
  refine (callsIn_wide (n := 6)).1 ?_
  have hbox : Blk (w.alloc (.cells #[.string ⟨l.toArray⟩] 9)) w.heap.size 9 #[.string ⟨l.toArray⟩] := Blk.new w 9 #[.string ⟨l.toArray⟩]
  have hB := (Below.refl w.heap.size w).alloc (Nat.le_refl _) (.cells #[.string ⟨l.toArray⟩] 9)
  have cA := hide (appendSeq_in l hz w _ hT w.heap.size (Nat.le_refl _) (by simp) hB hbox)
  refine callsIn_of_wp Tryz.func167 rfl trivial ?_ rfl
  simp only [Tryz.ntmps167, List.size_toArray, List.length_cons, List.length_nil, Nat.reduceAdd, Nat.reduceSub, Array.replicate_succ, Array.replicate_zero, List.push_toArray, List.append_toArray, List.nil_append, List.cons_append]
  gi_wp2_with (refine ⟨trivial, ?_⟩; gi_at_call 164; refine (utfEach_in _ l _).mono ?_)
  rintro e w1 ⟨rfl, rfl⟩
  have cC : CallsIn Fence.wide 6 Tryz.prog 211 #[.func (.func 207) #[] #[.pointer (some ⟨w.heap.size, 0, none⟩)]] (w.alloc (.cells #[.string ⟨l.toArray⟩] 9)) fun e w' => ∃ v, e = .returned v ∧ w'.ownsRow w.heap.size 3 1 v (charsR l).length (ints (charsR l)) ∧ Below w.heap.size w w' := by
    refine callsIn_of_wp Tryz.func211 rfl trivial ?_ rfl
    simp only [Tryz.ntmps211, List.size_toArray, List.length_cons, List.length_nil, Nat.reduceAdd, Nat.reduceSub, Array.replicate_succ, Array.replicate_zero, List.push_toArray, List.append_toArray, List.nil_append, List.cons_append]
    gi_wp2_with (refine ⟨trivial, ?_⟩; gi_at_call 233; refine (callsIn_wide.2 ((callsIn_wide (n := 6)).1 cA.out)).mono ?_)
    rintro e w1 ⟨v, rfl, hown, hb⟩
    gi_wp2
    go_ret
    exact ⟨_, rfl, hown, hb⟩
  have cC := hide cC
  gi_wp2_with (refine ⟨trivial, ?_⟩; gi_at_call 211; refine (callsIn_wide.2 ((callsIn_wide (n := 6)).1 cC.out)).mono ?_)
  rintro e w1 ⟨v, rfl, hown, hb⟩
  gi_wp2
  go_ret
  exact ⟨_, rfl, hown, hb⟩
end Go.Proofs.YtnepogddjinpoaaGreatDoor

namespace Go.Proofs.YtnepogddjinpoaaGreatDoor
open Go.RowKit
set_option linter.unusedVariables false

theorem getByteP {t : ByteArray} {k : Nat} (h : k < t.size) : t.data.toList[k]? = some (t[k]'h) := by
  rw [List.getElem?_eq_getElem (by rw [size_list]; exact h)]; rfl
theorem ret_twoP {a b : Int} {p : Int × Int} (h : (a, b) = p) : Ending.returned (.tuple #[.int .i64 a, .int .i64 b]) = .returned (.tuple #[.int .i64 p.1, .int .i64 p.2]) := by rw [← h]
theorem ofInt_i64 (a : Nat) (ha : a < 9223372036854775808) : (BitVec.ofInt 64 (a : Int)).toNat = a := by
  rw [BitVec.ofInt_natCast, BitVec.toNat_ofNat]; exact Nat.mod_eq_of_lt (by omega)
theorem i64_or_nat (a b : Nat) (ha : a < 9223372036854775808) (hb : b < 9223372036854775808) : bits .or .i64 (a : Int) (b : Int) = ((a ||| b : Nat) : Int) := by
  have hx : a ||| b < 2 ^ 63 := Nat.or_lt_two_pow (by omega) (by omega)
  show IntKind.i64.wrap ((BitVec.ofInt 64 (a : Int) ||| BitVec.ofInt 64 (b : Int)).toNat : Int) = _
  rw [BitVec.toNat_or, ofInt_i64 a ha, ofInt_i64 b hb, IntKind.wrap_i64]
  omega
theorem or_16 (n d : Nat) (hn : n < 268435456) (hd : d < 16) : bits .or .i64 ((n : Int) * 16) (d : Int) = (n : Int) * 16 + (d : Int) := by
  have e : (n : Int) * 16 = ((n * 16 : Nat) : Int) := by omega
  rw [e, i64_or_nat _ _ (by omega) (by omega)]
  have := Nat.two_pow_add_eq_or_of_lt (i := 4) (b := d) hd n
  rw [Nat.mul_comm, show 2 ^ 4 = 16 from rfl] at this
  omega

theorem digit_index (c : UInt8) (w : World) : Calls Tryz.prog 212 #[.string ⟨hexText.toArray⟩, .int .u8 ((smallB c).toNat : Int)] w fun e w' => e = .returned (.int .i64 (hexV c)) ∧ w = w' := by
  have h := strings_IndexByte ⟨hexText.toArray⟩ ((smallB c).toNat : Int) w
  have e : Lib.indexByte (ByteArray.mk hexText.toArray).data.toList ((smallB c).toNat : Int).toNat.toUInt8 = hexV c := by
    rw [← hexV_index c, Int.toNat_natCast]
    congr 1
    simp
  rw [e] at h
  exact h

set_option maxHeartbeats 1000000 in
set_option maxRecDepth 100000 in
theorem unhex_any (s : ByteArray) (w : World) (hs : s.size ≤ 9223372036854775807) :
    Calls Tryz.prog 216 #[.string s] w fun e w' => e = .returned (.tuple #[.int .i64 (pUnhex s.data.toList).1, .int .i64 (pUnhex s.data.toList).2]) ∧ Below w.heap.size w w' := by
  by_cases h1 : s.data.toList = []
  · have h1' : s.toList = [] := by rw [ByteArray.toList_eq]; exact h1
    have HF := hide (show pUnhex s.data.toList = (0, 8) by unfold pUnhex; rw [if_pos h1])
    clear h1
    go_enter Tryz.func216, Tryz.ntmps216
    go_wp2
    go_ret2
    exact ⟨ret_twoP HF.out.symm, Below.refl _ _⟩
  · have h1' : s.toList.isEmpty = false := by rw [ByteArray.toList_eq]; simpa using h1
    by_cases h2 : (8 : Int) < (s.size : Int)
    · have HF := hide (show pUnhex s.data.toList = (0, 5) by unfold pUnhex; rw [if_neg h1, if_pos (by rw [size_list]; omega)])
      clear h1
      go_enter Tryz.func216, Tryz.ntmps216
      go_wp2
      go_ret2
      exact ⟨ret_twoP HF.out.symm, Below.refl _ _⟩
    · have H1 := hide h1
      have H2 : Hid (¬ 8 < s.data.toList.length) := hide (by rw [size_list]; omega)
      obtain ⟨cap, W1, hcv, hrow, hbel, hlt, hcap⟩ := conv_bytes w s
      have HR := hide hrow; have HB := hide hbel; clear hrow hbel h1
      have HL := hide (size_list s)
      go_enter Tryz.func216, Tryz.ntmps216
      go_wp2
      clear hcv
      go_loop [4, 18] (fun v i => ∃ k n : Nat, i = .int .i64 (k : Int) ∧ v = .int .i64 (n : Int) ∧ k ≤ s.size ∧ Hid (HexRel s.data.toList k n)) (fun _ i => s.size - (intOf i).toNat)
      case atStart => exact ⟨0, 0, rfl, rfl, Nat.zero_le _, rfl, rfl⟩
      case round =>
        obtain ⟨k, n, rfl, rfl, hk, hrel⟩ := hrel
        by_cases hlt2 : k < s.size
        · have hc := getByteP hlt2
          obtain ⟨c, hcc⟩ : ∃ c, s[k]'hlt2 = c := ⟨_, rfl⟩
          rw [hcc] at hc
          have hcell := HR.out.cell hc
          have hr := hexV_range c
          have hI := hide (fun w => digit_index c w)
          unfold hexText at hI
          have HC := hide hc
          clear hc hcc
          by_cases hv : hexV c < 0
          · have HF := hide (hrel.out.bad H1.out H2.out HC.out hv)
            obtain ⟨v, hv2⟩ : ∃ v, hexV c = v := ⟨_, rfl⟩
            rw [hv2] at hI hv hr
            clear hv2
            go_wp2_with (first | (go_at_call 227; refine (small_any c _).mono ?_; rintro e w1 ⟨rfl, rfl⟩) | (go_at_call 212; refine (hI.out _).mono ?_; rintro e w1 ⟨rfl, rfl⟩))
            go_ret2
            exact ⟨ret_twoP HF.out.symm, HB.out⟩
          · have HF := hide (hrel.out.next HC.out (by omega))
            have hn := hrel.out.lt (by omega)
            obtain ⟨v, hv2⟩ : ∃ v : Nat, hexV c = (v : Int) := ⟨(hexV c).toNat, by omega⟩
            rw [hv2] at hI hv hr HF
            rw [Int.toNat_natCast] at HF
            have hor := or_16 n v hn (by omega)
            clear hv2
            go_wp2_with (first | (go_at_call 227; refine (small_any c _).mono ?_; rintro e w1 ⟨rfl, rfl⟩) | (go_at_call 212; refine (hI.out _).mono ?_; rintro e w1 ⟨rfl, rfl⟩))
            go_round
            case rel => exact ⟨k + 1, n * 16 + v, by go_num, by go_num, by omega, HF⟩
            case measure => simp [intOf]; omega
        · have HF := hide (hrel.out.end_ H1.out H2.out (by have := HL.out; omega))
          go_wp2
          go_ret2
          exact ⟨ret_twoP HF.out.symm, HB.out⟩

end Go.Proofs.YtnepogddjinpoaaGreatDoor

namespace Go.Proofs.YtnepogddjinpoaaGreatDoor
open Go.RowKit
set_option linter.unusedVariables false
set_option linter.unusedSimpArgs false

theorem drop_consD (l : List UInt8) (k : Nat) (h : k < l.length) : l.drop k = l[k] :: l.drop (k + 1) := List.drop_eq_getElem_cons h
theorem unhexL_any (l : List UInt8) (w : World) (hl : l.length ≤ 1000000000) :
    Calls Tryz.prog 216 #[.string ⟨l.toArray⟩] w fun e w' => e = .returned (.tuple #[.int .i64 (pUnhex l).1, .int .i64 (pUnhex l).2]) ∧ Below w.heap.size w w' :=
  unhex_any ⟨l.toArray⟩ w (by rw [mk_size]; omega)
theorem two_of (l : List UInt8) (k : Nat) (h : k + 2 < l.length) : ∃ a b, (l.drop (k + 1)).take 2 = [a, b] ∧ ∀ c, codedB (c :: l.drop (k + 1)) = (c == 37 && (hexB a && hexB b)) ∧ hexOf (l.drop (k + 1)) = hexOf [a, b] := by
  refine ⟨l[k + 1], l[k + 1 + 1], ?_, fun c => ⟨?_, ?_⟩⟩
  all_goals rw [drop_consD l (k + 1) (by omega), drop_consD l (k + 1 + 1) (by omega)]
  all_goals rfl
theorem cut_two (l : List UInt8) (k : Nat) (h : k + 3 ≤ l.length) : (⟨l.toArray⟩ : ByteArray).extract (k + 1) (k + 3) = ⟨((l.drop (k + 1)).take 2).toArray⟩ := by
  rw [Lib.extract_mk]
  rw [show k + 3 - (k + 1) = 2 by omega]
set_option maxHeartbeats 1000000 in
set_option maxRecDepth 100000 in
theorem coded_any (l : List UInt8) (k : Nat) (w : World) (hz : l.length ≤ 1000000000) (hk : k < l.length) :
    Calls Tryz.prog 177 #[.string ⟨l.toArray⟩, .int .i64 (k : Int)] w fun e w' => e = .returned (.bool (codedB (l.drop k))) ∧ Below w.heap.size w w' := by
  have hlz : k < (⟨l.toArray⟩ : ByteArray).size := by rw [mk_size]; exact hk
  obtain ⟨x, hx⟩ : ∃ x, (⟨l.toArray⟩ : ByteArray)[k]'hlz = x := ⟨_, rfl⟩
  have hlx : l[k] = x := hx
  have hki : (k : Int) < (l.length : Int) := by omega
  rw [drop_consD l k hk, hlx]
  by_cases h1 : x.toNat = 37
  · have e1 : ((x.toNat : Int) != 37) = false := by simp; omega
    have hx37 : x = 37 := UInt8.toNat_inj.1 h1
    by_cases h2 : k + 2 < l.length
    · obtain ⟨a, b, t1, t2⟩ := two_of l k h2
      rw [(t2 x).1, hx37, show ((37 : UInt8) == 37) = true by decide, Bool.true_and]
      have cU := unhexL_any [a, b] w (by simp)
      rw [pUnhex2] at cU
      rw [← t1, ← cut_two l k (by omega)] at cU
      have g1 : decide ((l.length : Int) - (k : Int) < 3) = false := by simp; omega
      have g2 : (3 : Int) ≤ (l.length : Int) - (k : Int) := by omega
      have g3 : (k : Int) + 3 ≤ (l.length : Int) := by omega
      rcases Bool.eq_false_or_eq_true (hexB a && hexB b) with hc | hc
      · rw [hc] at cU ⊢
        have cU := hide cU
        clear hlx hx37 h1 h2 t1 t2 hc
        go_enter Tryz.func177, Tryz.ntmps177
        go_wp2_with (go_at_call 216; refine (cU.out).mono ?_; rintro e w1 ⟨rfl, hb1⟩)
        go_ret
        exact ⟨rfl, hb1⟩
      · rw [hc] at cU ⊢
        have cU := hide cU
        clear hlx hx37 h1 h2 t1 t2 hc
        go_enter Tryz.func177, Tryz.ntmps177
        go_wp2_with (go_at_call 216; refine (cU.out).mono ?_; rintro e w1 ⟨rfl, hb1⟩)
        go_ret
        exact ⟨rfl, hb1⟩
    · have hcb : codedB (x :: l.drop (k + 1)) = false := by
        have hl : (l.drop (k + 1)).length ≤ 1 := by rw [List.length_drop]; omega
        match hd : l.drop (k + 1), hl with
        | [], _ => rfl
        | [a], _ => rfl
      rw [hcb]
      have g1 : decide ((l.length : Int) - (k : Int) < 3) = true := by simp; omega
      have g2 : (l.length : Int) - (k : Int) < 3 := by omega
      clear hlx hx37 h1 h2 hcb
      go_enter Tryz.func177, Tryz.ntmps177
      go_wp2_with fail
      go_ret
      exact ⟨rfl, Below.refl _ _⟩
  · have e1 : ((x.toNat : Int) != 37) = true := by simp; omega
    have hcb : codedB (x :: l.drop (k + 1)) = false := by
      match l.drop (k + 1) with
      | [] => rfl
      | [a] => rfl
      | a :: b :: r =>
        show (x == 37 && _) = false
        rw [show (x == 37) = false by simp; intro h; exact h1 (by rw [h]; rfl)]
        rfl
    rw [hcb]
    clear hlx h1 hcb
    go_enter Tryz.func177, Tryz.ntmps177
    go_wp2_with fail
    go_ret
    exact ⟨rfl, Below.refl _ _⟩
end Go.Proofs.YtnepogddjinpoaaGreatDoor

namespace Go.Proofs.YtnepogddjinpoaaGreatDoor
open Go.RowKit
set_option linter.unusedVariables false

theorem made_room (n : Nat) : madeCells #[Value.int .u8 0] n = room n [] := by
  apply Array.toList_inj.1
  rw [toList_madeCells_one]
  simp [room, bv]
theorem info_u8 : (Tryz.prog.info? 5).map (fun i => (i.zero, i.size, i.bytes)) = some (some (.int .u8 0), 1, 1) := by kernel_rfl

theorem conv_u64 (n : Int) (W : World) : (convert 3 214 (.int .i64 n)).run Tryz.prog W = .ok (.int .u64 (hexU n : Int)) W := by
  have e : IntKind.u64.wrap n = (hexU n : Int) := by unfold hexU; simp [IntKind.wrap, IntKind.bits, IntKind.signed]; omega
  go_simp

theorem and_15 (u k : Nat) (hu : u ≤ 18446744073709551615) : bits BinOp.and IntKind.u64 ((u : Int) / 2 ^ (4 * k)) 15 = ((u / 16 ^ k % 16 : Nat) : Int) := by
  have e : ((u : Int) / 2 ^ (4 * k)) = ((u / 16 ^ k : Nat) : Int) := by
    rw [show (16 : Nat) ^ k = 2 ^ (4 * k) by rw [show (16 : Nat) = 2 ^ 4 from rfl, ← Nat.pow_mul]]
    simp
  rw [e]
  have hlt : u / 16 ^ k < 18446744073709551616 := Nat.lt_of_le_of_lt (Nat.div_le_self _ _) (by omega)
  have := u64_and_nat (u / 16 ^ k) 15 hlt (by omega)
  rw [show ((15 : Int)) = ((15 : Nat) : Int) from rfl, this]
  congr 1
  exact Nat.and_two_pow_sub_one_eq_mod _ 4
theorem hexText_ix (d : Nat) (h : d < 16) : ∀ hh, (⟨hexText.toArray⟩ : ByteArray)[d]'hh = hexd d := by
  intro hh
  have h1 := hexText_at d h
  have h2 : (⟨hexText.toArray⟩ : ByteArray).data.toList[d]? = some ((⟨hexText.toArray⟩ : ByteArray)[d]'hh) := by
    rw [List.getElem?_eq_getElem hh]; rfl
  exact Option.some.inj (h2.symm.trans h1)

set_option maxHeartbeats 1000000 in
set_option maxRecDepth 100000 in
theorem hex_any (n size : Int) (w : World) (h1 : -9223372036854775808 ≤ size) (h2 : size ≤ 9223372036854775807) :
    Calls Tryz.prog 213 #[.int .i64 n, .int .i64 size] w fun e w' => e = .returned (.string ⟨(pHex n size).toArray⟩) ∧ Below w.heap.size w w' := by
  obtain ⟨z, hz⟩ : ∃ z, hexSize size = z := ⟨_, rfl⟩
  obtain ⟨u, hu⟩ : ∃ u, hexU n = u := ⟨_, rfl⟩
  have hcv := conv_u64 n
  rw [hu] at hcv
  have hz16 := hexSize_le size
  have hu64 := hexU_lt n
  rw [hz] at hz16
  rw [hu] at hu64
  have hu64' : (u : Int) ≤ 18446744073709551615 := by omega
  have hmk := fun W => run_make_row' (P := Tryz.prog) 119 5 (.int .u8 0) 1 Tryz.underlying119 info_u8 rfl .i64 .i64 z (by omega) (by omega) W
  rw [made_room] at hmk
  have hmm : min (max size 0) 16 = (z : Int) := by rw [← hz]; unfold hexSize; omega
  have HC := hide hcv
  have HZ := hide hz
  have HU := hide hu
  unfold pHex
  rw [hz, hu]
  clear hz hu hu64 hcv
  go_enter Tryz.func213, Tryz.ntmps213
  go_wp2
  clear hmk hmm
  go_loopw [14] (fun i wr => ∃ k : Nat, i = .int .i64 (k : Int) ∧ k ≤ z ∧ Blk wr w.heap.size 5 (room (z - k) (hexs u k)) ∧ Below w.heap.size w wr) (fun i _ => z - (intOf i).toNat)
  case atStart => exact ⟨0, rfl, Nat.zero_le _, Blk.new _ _ _, (Below.refl _ _).alloc (Nat.le_refl _) _⟩
  case round =>
    obtain ⟨k, rfl, hk, hblk, hbel⟩ := hrel
    by_cases hlt : k < z
    · have hc : wr.cell? ⟨w.heap.size, z - 1 - k, none⟩ = some (.int .u8 0) := by rw [hblk.cell, show z - 1 - k = z - k - 1 by omega]; exact room_at _ _ (by omega)
      have hf : wr.frozen? ⟨w.heap.size, z - 1 - k, none⟩ = false := hblk.frozen _
      have HB := hide hblk; have HL := hide hbel; clear hblk hbel
      have hcv := HC.out
      obtain ⟨d, hd⟩ : ∃ d, u / 16 ^ k % 16 = d := ⟨_, rfl⟩
      have hd16 : d < 16 := by omega
      have hand := and_15 u k (by omega)
      rw [hd] at hand
      have hix := hexText_ix d hd16
      unfold hexText at hix
      have HD := hide hd; clear hd
      go_wp2
      go_roundw
      case rel =>
        refine ⟨k + 1, by go_num, by omega, ?_, HL.out.setCell (p := ⟨w.heap.size, z - 1 - k, none⟩) (Nat.le_refl _) _⟩
        rw [show z - (k + 1) = z - k - 1 by omega, show z - 1 - k = z - k - 1 by omega]
        show Blk _ _ _ (room (z - k - 1) (hexd (u / 16 ^ k % 16) :: hexs u k))
        rw [← HD.out, ← room_set (z - k) (hexs u k) (by omega)]
        exact HB.out.set_ _ _
      case measure => simp [intOf]; omega
    · have hkz : k = z := by omega
      rw [show z - k = 0 by omega, hkz] at hblk
      have hcv := conv_str 119 9 5 Tryz.underlying119 Tryz.underlying5 Tryz.underlying9 (c := z) (room_reads (n := z) hblk (hexs_length u z))
      have HB := hide hblk; have HL := hide hbel; clear hblk hbel hkz
      go_wp2
      go_ret
      exact ⟨rfl, HL.out⟩
end Go.Proofs.YtnepogddjinpoaaGreatDoor

namespace Go.Proofs.YtnepogddjinpoaaGreatDoor
open Go.RowKit
set_option linter.unusedVariables false
set_option linter.unusedSimpArgs false

theorem letter_bits (c : UInt8) : (decide (97 ≤ bits BinOp.or IntKind.u8 (c.toNat : Int) 32) && decide (bits BinOp.or IntKind.u8 (c.toNat : Int) 32 ≤ 122)) = isLetter c := by
  have := allBytes (fun c => (decide (97 ≤ bits BinOp.or IntKind.u8 (c.toNat : Int) 32) && decide (bits BinOp.or IntKind.u8 (c.toNat : Int) 32 ≤ 122)) == isLetter c) (by decide +kernel) c
  simpa using this
set_option maxHeartbeats 400000 in
set_option maxRecDepth 100000 in
theorem letter_anyP (c : UInt8) (w : World) : Calls Tryz.prog 152 #[.int .u8 (c.toNat : Int)] w fun e w' => e = .returned (.bool (isLetter c)) ∧ w = w' := by
  have hb := letter_bits c
  generalize isLetter c = b at hb
  generalize hv : bits BinOp.or IntKind.u8 (c.toNat : Int) 32 = v at hb
  rcases Bool.eq_false_or_eq_true (decide (97 ≤ v)) with h1 | h1
  · rw [h1, Bool.true_and] at hb
    subst hb
    go_enter Tryz.func152, Tryz.ntmps152
    go_wp2_with fail
    go_ret
    exact ⟨rfl, rfl⟩
  · rw [h1, Bool.false_and] at hb
    subst hb
    go_enter Tryz.func152, Tryz.ntmps152
    go_wp2_with fail
    go_ret
    exact ⟨rfl, rfl⟩
/-- The octets that stand beside letters and digits. -/
def dashL : List UInt8 := [45, 46, 95, 126]
theorem index_iff (l : List UInt8) (c : UInt8) : 0 ≤ Lib.indexByte l c ↔ l.any (· == c) = true := by
  induction l with
  | nil => simp [Lib.indexByte]
  | cons b l ih =>
    have hg := Lib.indexByte_ge l c
    simp only [Lib.indexByte, List.any_cons, Bool.or_eq_true, ← ih]
    split
    · rename_i h; simp [h]
    · rename_i h
      split
      · rename_i h1
        have h2 : Lib.indexByte l c = -1 := by simpa using h1
        simp [h, h2]
      · rename_i h1
        have h2 : ¬ Lib.indexByte l c = -1 := by simpa using h1
        simp [h]
        omega
theorem index_has (l : List UInt8) (c : UInt8) : decide (0 ≤ Lib.indexByte l c) = l.any (· == c) := by
  rw [Bool.eq_iff_iff, decide_eq_true_iff]
  exact index_iff l c
theorem at_index (l : List UInt8) (c : UInt8) (w : World) : Calls Tryz.prog 212 #[.string ⟨l.toArray⟩, .int .u8 (c.toNat : Int)] w fun e w' => (∃ i : Int, e = .returned (.int .i64 i) ∧ decide (0 ≤ i) = l.any (· == c)) ∧ w = w' := by
  refine (strings_IndexByte ⟨l.toArray⟩ (c.toNat : Int) w).mono ?_
  rintro e w' ⟨rfl, rfl⟩
  refine ⟨⟨_, rfl, ?_⟩, rfl⟩
  rw [← index_has]
  have : (c.toNat : Int).toNat.toUInt8 = c := by simp
  rw [this]
theorem unres_split (c : UInt8) : unresB c = (isLetter c || (isDig c || dashL.any (· == c))) := by
  have := allBytes (fun c => unresB c == (isLetter c || (isDig c || dashL.any (· == c)))) (by decide +kernel) c
  simpa using this
theorem dig_split (c : UInt8) : isDig c = (decide (48 ≤ (c.toNat : Int)) && decide ((c.toNat : Int) ≤ 57)) := by
  have := allBytes (fun c => isDig c == (decide (48 ≤ (c.toNat : Int)) && decide ((c.toNat : Int) ≤ 57))) (by decide +kernel) c
  simpa using this
set_option maxHeartbeats 400000 in
set_option maxRecDepth 100000 in
theorem res_any (c : UInt8) (w : World) : Calls Tryz.prog 176 #[.int .u8 (c.toNat : Int)] w fun e w' => e = .returned (.bool (resB c)) ∧ w = w' := by
  have cI := at_index resL c w
  have hr : resB c = resL.any (· == c) := rfl
  rw [← hr] at cI
  clear hr
  unfold resL at cI
  generalize resB c = b at cI
  have cI := hide cI
  go_enter Tryz.func176, Tryz.ntmps176
  go_wp2_with (go_at_call 212; refine (cI.out).mono ?_; rintro e w1 ⟨⟨i, rfl, rfl⟩, rfl⟩)
  go_ret
  exact ⟨by first | rfl | simp, rfl⟩
set_option maxHeartbeats 1000000 in
set_option maxRecDepth 100000 in
theorem unres_any (c : UInt8) (w : World) : Calls Tryz.prog 175 #[.int .u8 (c.toNat : Int)] w fun e w' => e = .returned (.bool (unresB c)) ∧ w = w' := by
  have cL := letter_anyP c w
  have cI := at_index dashL c w
  have hu := unres_split c
  rw [dig_split] at hu
  rw [hu]
  clear hu
  generalize isLetter c = b1 at cL ⊢
  unfold dashL at cI ⊢
  generalize List.any _ _ = b3 at cI ⊢
  have cL := hide cL; have cI := hide cI
  cases b1
  rotate_left
  · go_enter Tryz.func175, Tryz.ntmps175
    go_wp2_with (go_at_call 152; refine (cL.out).mono ?_; rintro e w1 ⟨rfl, rfl⟩)
    go_ret
    exact ⟨rfl, rfl⟩
  · rcases Bool.eq_false_or_eq_true (decide (48 ≤ (c.toNat : Int))) with g1 | g1
    · rcases Bool.eq_false_or_eq_true (decide ((c.toNat : Int) ≤ 57)) with g2 | g2
      · rw [g1, g2]
        go_enter Tryz.func175, Tryz.ntmps175
        go_wp2_with (first | (go_at_call 152; refine (cL.out).mono ?_; rintro e w1 ⟨rfl, rfl⟩) | (go_at_call 212; refine (cI.out).mono ?_; rintro e w1 ⟨⟨i, rfl, rfl⟩, rfl⟩))
        go_ret
        exact ⟨rfl, rfl⟩
      · rw [g1, g2]
        go_enter Tryz.func175, Tryz.ntmps175
        go_wp2_with (first | (go_at_call 152; refine (cL.out).mono ?_; rintro e w1 ⟨rfl, rfl⟩) | (go_at_call 212; refine (cI.out).mono ?_; rintro e w1 ⟨⟨i, rfl, rfl⟩, rfl⟩))
        go_ret
        exact ⟨by first | rfl | simp, rfl⟩
    · rw [g1]
      go_enter Tryz.func175, Tryz.ntmps175
      go_wp2_with (first | (go_at_call 152; refine (cL.out).mono ?_; rintro e w1 ⟨rfl, rfl⟩) | (go_at_call 212; refine (cI.out).mono ?_; rintro e w1 ⟨⟨i, rfl, rfl⟩, rfl⟩))
      go_ret
      exact ⟨by first | rfl | simp, rfl⟩
end Go.Proofs.YtnepogddjinpoaaGreatDoor

namespace Go.Proofs.YtnepogddjinpoaaGreatDoor
open Go.RowKit
set_option linter.unusedVariables false
set_option linter.unusedSimpArgs false

/-- A function tells which octets stand as they are. -/
def MayB (g : Nat) (nm : Bool) : Prop := ∀ (l : List UInt8) (k : Nat) (c : UInt8) (w : World), l.length ≤ 1000000000 → (h : k < l.length) → l[k] = c →
  Calls Tryz.prog g #[.string ⟨l.toArray⟩, .int .i64 (k : Int)] w fun e w' => e = .returned (.bool (keepB nm c (l.drop (k + 1)))) ∧ Below w.heap.size w w'
theorem pctR_at (nm : Bool) (l : List UInt8) (k : Nat) (c : UInt8) (h : k < l.length) (hc : l[k] = c) : pctR nm (l.drop k) = (if keepB nm c (l.drop (k + 1)) then [c] else pct2 c) ++ pctR nm (l.drop (k + 1)) := by
  rw [List.drop_eq_getElem_cons h, hc]; rfl
set_option maxHeartbeats 1000000 in
set_option maxRecDepth 100000 in
theorem written_any (g : Nat) (eg : ∀ args w, (callFunc g args).run Tryz.prog w = .ok (.enter g args) w) (nm : Bool) (hm : MayB g nm) (l : List UInt8) (w : World) (hz : l.length ≤ 1000000000) :
    Calls Tryz.prog 173 #[.string ⟨l.toArray⟩, .func (.func g) #[] #[]] w fun e w' => e = .returned (.string ⟨(pctR nm l).toArray⟩) ∧ Below w.heap.size w w' := by
  have HM := hide hm
  clear hm
  obtain ⟨R, hR⟩ : ∃ R, pctR nm l = R := ⟨_, rfl⟩
  rw [hR]
  have hRl := pctR_len nm l
  rw [hR] at hRl
  have hst : Hid ([] ++ pctR nm (l.drop 0) = R) := by show _ = _; simpa using hR
  clear hR
  have hI0 := isBT_new 184 w w.heap.size (Nat.le_refl _)
  have hB0 := (Below.refl w.heap.size w).alloc (Nat.le_refl _) (.cells #[.pointer none, .slice none 0 0] 184)
  go_enter Tryz.func173, Tryz.ntmps173
  go_wp2_with fail
  generalize hW : w.alloc (.cells #[.pointer none, .slice none 0 0] 184) = W at hI0 hB0 ⊢
  clear hW
  go_loopw [9] (fun i wr => ∃ (k : Nat) (ys : List UInt8), i = .int .i64 (k : Int) ∧ k ≤ l.length ∧ ys.length ≤ 3 * k ∧ IsBT 184 w.heap.size w.heap.size ys wr ∧ Below w.heap.size w wr ∧ Hid (ys ++ pctR nm (l.drop k) = R)) (fun i _ => l.length - (intOf i).toNat)
  case atStart => exact ⟨0, [], rfl, Nat.zero_le _, Nat.zero_le _, hI0, hB0, hst⟩
  case round =>
    obtain ⟨k, ys, rfl, hk, hyk, hI, hb, hrel⟩ := hrel
    have hbz := hb.size
    by_cases hlt : k < l.length
    · have hlz : k < (⟨l.toArray⟩ : ByteArray).size := by rw [mk_size]; exact hlt
      obtain ⟨x, hx⟩ : ∃ x, (⟨l.toArray⟩ : ByteArray)[k]'hlz = x := ⟨_, rfl⟩
      have hlx : l[k] = x := hx
      have hki : (k : Int) < (l.length : Int) := by omega
      have cM := HM.out l k x wr hz hlt hlx
      have hat := pctR_at nm l k x hlt hlx
      generalize keepB nm x (l.drop (k + 1)) = b at cM hat
      have cM := hide cM
      cases b
      · have HN : Hid ((ys ++ [37] ++ pHex (x.toNat : Int) 2) ++ pctR nm (l.drop (k + 1)) = R) := by
          show _ = _
          rw [← hrel.out, hat]; simp [pct2]
        have h2l := pHex2_len (x.toNat : Int)
        have cH := hide (fun w => hex_any (x.toNat : Int) 2 w (by omega) (by omega))
        generalize pHex (x.toNat : Int) 2 = hx2 at cH HN h2l
        clear hat hlx hrel
        go_wp2_with (go_at_fn g; refine (cM.out).mono ?_; rintro e w1 ⟨rfl, hb1⟩)
        have hI1 := isBT_keep hI hb1
        have hbb1 := hb.trans (hb1.mono hbz)
        have c37 := btByte btBuilder w.heap.size w.heap.size ys 37 _ hI1 (by omega) hbb1.size
        rw [show (((37 : UInt8).toNat : Nat) : Int) = 37 from rfl] at c37
        refine c37.mono ?_
        rintro e w2 ⟨rfl, hI2, hb2, _⟩
        have hbb2 := hbb1.trans hb2
        go_wp2_with fail
        have hw64 : wrap64 (x.toNat : Int) = (x.toNat : Int) := IntWalk.wrap64_in _ (by have := x.toNat_lt; omega)
        (try rw [hw64])
        refine (cH.out _).mono ?_
        rintro e w3 ⟨rfl, hb3⟩
        have hI3 := isBT_keep hI2 hb3
        have hbb3 := hbb2.trans (hb3.mono hbb2.size)
        go_wp2_with fail
        refine (btStr btBuilder w.heap.size w.heap.size (ys ++ [37]) hx2 _ hI3 (by simp; omega) hbb3.size).mono ?_
        rintro e w4 ⟨⟨v, rfl⟩, hI4, hb4, _⟩
        have hbb4 := hbb3.trans hb4
        clear hI hI1 hI2 hI3 hb1 hb2 hb3 hb4 hbb1 hbb2 hbb3 hb
        go_wp2_with fail
        go_roundw
        case rel => exact ⟨k + 1, ys ++ [37] ++ hx2, by go_num, by omega, by simp; omega, hI4, hbb4, HN⟩
        case measure => simp [intOf]; omega
      · have HN : Hid ((ys ++ [x]) ++ pctR nm (l.drop (k + 1)) = R) := by
          show _ = _
          rw [← hrel.out, hat]; simp
        clear hat hlx hrel
        go_wp2_with (go_at_fn g; refine (cM.out).mono ?_; rintro e w1 ⟨rfl, hb1⟩)
        have hI1 := isBT_keep hI hb1
        have hbb1 := hb.trans (hb1.mono hbz)
        refine (btByte btBuilder w.heap.size w.heap.size ys x _ hI1 (by omega) hbb1.size).mono ?_
        rintro e w2 ⟨rfl, hI2, hb2, _⟩
        have hbb2 := hbb1.trans hb2
        clear hI hI1 hb1 hb2 hbb1 hb
        go_wp2_with fail
        go_roundw
        case rel => exact ⟨k + 1, ys ++ [x], by go_num, by omega, by simp; omega, hI2, hbb2, HN⟩
        case measure => simp [intOf]; omega
    · have hR2 : ys = R := by
        have := hrel.out
        rw [List.drop_of_length_le (by omega)] at this
        simpa [pctR] using this
      subst hR2
      have hge : decide ((k : Int) < (l.length : Int)) = false := by simp; omega
      clear hrel hst
      go_wp2_with fail
      refine (btString w.heap.size w.heap.size ys _ hI hbz).mono ?_
      rintro e w1 ⟨rfl, hb1⟩
      go_wp2_with fail
      go_ret
      exact ⟨rfl, hb.trans hb1⟩
set_option maxHeartbeats 1000000 in
set_option maxRecDepth 100000 in
theorem mayNormal : MayB 174 true := by
  intro l k c w hz hk hc
  have hlz : k < (⟨l.toArray⟩ : ByteArray).size := by rw [mk_size]; exact hk
  have hx : (⟨l.toArray⟩ : ByteArray)[k]'hlz = c := hc
  have hki : (k : Int) < (l.length : Int) := by omega
  have cU := unres_any c w
  have cR := res_any c w
  have cC := coded_any l k w hz hk
  rw [List.drop_eq_getElem_cons hk, hc] at cC
  have hkeep : keepB true c (l.drop (k + 1)) = (unresB c || (resB c || codedB (c :: l.drop (k + 1)))) := rfl
  rw [hkeep]
  generalize unresB c = b1 at cU ⊢
  generalize resB c = b2 at cR ⊢
  generalize codedB (c :: l.drop (k + 1)) = b3 at cC ⊢
  have cU := hide cU; have cR := hide cR; have cC := hide cC
  clear hkeep hc
  cases b1
  · cases b2
    · simp only [Bool.false_or]
      go_enter Tryz.func174, Tryz.ntmps174
      go_wp2_with (first | (go_at_call 175; refine (cU.out).mono ?_; rintro e w1 ⟨rfl, rfl⟩) | (go_at_call 176; refine (cR.out).mono ?_; rintro e w1 ⟨rfl, rfl⟩) | (go_at_call 177; refine (cC.out).mono ?_; rintro e w1 ⟨rfl, hb⟩))
      go_ret
      exact ⟨rfl, hb⟩
    · go_enter Tryz.func174, Tryz.ntmps174
      go_wp2_with (first | (go_at_call 175; refine (cU.out).mono ?_; rintro e w1 ⟨rfl, rfl⟩) | (go_at_call 176; refine (cR.out).mono ?_; rintro e w1 ⟨rfl, rfl⟩))
      go_ret
      exact ⟨rfl, Below.refl _ _⟩
  · go_enter Tryz.func174, Tryz.ntmps174
    go_wp2_with (first | (go_at_call 175; refine (cU.out).mono ?_; rintro e w1 ⟨rfl, rfl⟩))
    go_ret
    exact ⟨rfl, Below.refl _ _⟩
set_option maxHeartbeats 1000000 in
set_option maxRecDepth 100000 in
theorem normal_any (l : List UInt8) (w : World) (hz : l.length ≤ 100000000) (hT : Lib.Utf8Tabs 1 2 w) :
    Calls Tryz.prog 134 #[.string ⟨l.toArray⟩] w fun e w' => e = .returned (.string ⟨(pctR true (repairR l)).toArray⟩) ∧ Below w.heap.size w w' := by
  have cR := hide (utfRepair_any l w (by omega) hT)
  have hl := repairR_len l
  generalize repairR l = r at cR hl ⊢
  have cW := hide (fun w => written_any 174 (enters_of Tryz.func174 (by kernel_rfl) rfl) true mayNormal r w (by omega))
  generalize pctR true r = s at cW ⊢
  go_enter Tryz.func134, Tryz.ntmps134
  go_wp2_with fail
  refine (cR.out).mono ?_
  rintro e w1 ⟨rfl, hb1⟩
  go_wp2_with fail
  refine (cW.out _).mono ?_
  rintro e w2 ⟨rfl, hb2⟩
  go_wp2_with fail
  go_ret
  exact ⟨rfl, below_step hb1 hb2⟩
end Go.Proofs.YtnepogddjinpoaaGreatDoor

namespace Go.Proofs.YtnepogddjinpoaaGreatDoor
open Go.RowKit
set_option linter.unusedVariables false
set_option linter.unusedSimpArgs false

set_option maxHeartbeats 400000 in
set_option maxRecDepth 100000 in
theorem mayEncode : MayB 178 false := by
  intro l k c w hz hk hc
  have hlz : k < (⟨l.toArray⟩ : ByteArray).size := by rw [mk_size]; exact hk
  have hx : (⟨l.toArray⟩ : ByteArray)[k]'hlz = c := hc
  have hki : (k : Int) < (l.length : Int) := by omega
  have cU := hide (unres_any c w)
  have hkeep : keepB false c (l.drop (k + 1)) = unresB c := by simp [keepB]
  rw [hkeep]
  clear hkeep hc
  go_enter Tryz.func178, Tryz.ntmps178
  go_wp2_with (go_at_call 175; refine (cU.out).mono ?_; rintro e w1 ⟨rfl, rfl⟩)
  go_ret
  exact ⟨rfl, Below.refl _ _⟩
set_option maxHeartbeats 1000000 in
set_option maxRecDepth 100000 in
theorem encode_any (l : List UInt8) (w : World) (hz : l.length ≤ 100000000) (hT : Lib.Utf8Tabs 1 2 w) :
    Calls Tryz.prog 135 #[.string ⟨l.toArray⟩] w fun e w' => e = .returned (.string ⟨(pctR false (repairR l)).toArray⟩) ∧ Below w.heap.size w w' := by
  have cR := hide (utfRepair_any l w (by omega) hT)
  have hl := repairR_len l
  generalize repairR l = r at cR hl ⊢
  have cW := hide (fun w => written_any 178 (enters_of Tryz.func178 (by kernel_rfl) rfl) false mayEncode r w (by omega))
  generalize pctR false r = s at cW ⊢
  go_enter Tryz.func135, Tryz.ntmps135
  go_wp2_with fail
  refine (cR.out).mono ?_
  rintro e w1 ⟨rfl, hb1⟩
  go_wp2_with fail
  refine (cW.out _).mono ?_
  rintro e w2 ⟨rfl, hb2⟩
  go_wp2_with fail
  go_ret
  exact ⟨rfl, below_step hb1 hb2⟩
end Go.Proofs.YtnepogddjinpoaaGreatDoor

namespace Go.Proofs.YtnepogddjinpoaaGreatDoor
open Go.RowKit
set_option linter.unusedVariables false
set_option linter.unusedSimpArgs false

def spL : List UInt8 := [32, 95, 46, 44]
theorem plainC_split (x : UInt8) (h : x.toNat < 128) : plainC x.toNat = (isLetter x || ((decide (48 ≤ (x.toNat : Int)) && decide ((x.toNat : Int) ≤ 57)) || spL.any (· == x))) := by
  rw [← dig_split]
  unfold plainC
  have : u8 x.toNat = x := u8_self x
  rw [this, decide_eq_true h, Bool.true_and]; rfl
set_option maxHeartbeats 1000000 in
set_option maxRecDepth 100000 in
theorem plainC_octet_any (x : UInt8) (h : x.toNat < 128) (w : World) : Calls Tryz.prog 168 #[.int .i64 (x.toNat : Int)] w fun e w' => e = .returned (.bool (plainC x.toNat)) ∧ w = w' := by
  have cL := letter_anyP x w
  have cI := at_index spL x w
  have hlt : (x.toNat : Int) < 128 := by omega
  have hwr : IntKind.u8.wrap (x.toNat : Int) = (x.toNat : Int) := by
    unfold IntKind.wrap
    simp [IntKind.bits]
    omega
  rw [plainC_split x h]
  clear h
  generalize isLetter x = b1 at cL ⊢
  unfold spL at cI ⊢
  generalize List.any _ _ = b3 at cI ⊢
  have cL := hide cL; have cI := hide cI
  cases b1
  rotate_left
  · go_enter Tryz.func168, Tryz.ntmps168
    go_wp2_with (go_at_call 152; refine (cL.out).mono ?_; rintro e w1 ⟨rfl, rfl⟩)
    go_ret
    exact ⟨rfl, rfl⟩
  · rcases Bool.eq_false_or_eq_true (decide (48 ≤ (x.toNat : Int))) with g1 | g1
    · rcases Bool.eq_false_or_eq_true (decide ((x.toNat : Int) ≤ 57)) with g2 | g2
      · rw [g1, g2]
        go_enter Tryz.func168, Tryz.ntmps168
        go_wp2_with (first | (go_at_call 152; refine (cL.out).mono ?_; rintro e w1 ⟨rfl, rfl⟩) | (go_at_call 212; refine (cI.out).mono ?_; rintro e w1 ⟨⟨i, rfl, rfl⟩, rfl⟩))
        go_ret
        exact ⟨rfl, rfl⟩
      · rw [g1, g2]
        go_enter Tryz.func168, Tryz.ntmps168
        go_wp2_with (first | (go_at_call 152; refine (cL.out).mono ?_; rintro e w1 ⟨rfl, rfl⟩) | (go_at_call 212; refine (cI.out).mono ?_; rintro e w1 ⟨⟨i, rfl, rfl⟩, rfl⟩))
        go_ret
        exact ⟨by first | rfl | simp, rfl⟩
    · rw [g1]
      go_enter Tryz.func168, Tryz.ntmps168
      go_wp2_with (first | (go_at_call 152; refine (cL.out).mono ?_; rintro e w1 ⟨rfl, rfl⟩) | (go_at_call 212; refine (cI.out).mono ?_; rintro e w1 ⟨⟨i, rfl, rfl⟩, rfl⟩))
      go_ret
      exact ⟨by first | rfl | simp, rfl⟩
set_option maxHeartbeats 1000000 in
theorem plainC_any (m : Nat) (hm : m ≤ 1114111) (w : World) : Calls Tryz.prog 168 #[.int .i64 (m : Int)] w fun e w' => e = .returned (.bool (plainC m)) ∧ w = w' := by
  by_cases h : m < 128
  · have h1 : (u8 m).toNat = m := u8_toNat (by omega)
    have := plainC_octet_any (u8 m) (by omega) w
    rw [h1] at this
    exact this
  · have hp : plainC m = false := by unfold plainC; rw [decide_eq_false h]; rfl
    rw [hp]
    have hge : decide ((m : Int) < 128) = false := by simp; omega
    clear h hp
    go_enter Tryz.func168, Tryz.ntmps168
    go_wp2_with fail
    go_ret
    exact ⟨rfl, rfl⟩
set_option maxHeartbeats 1000000 in
theorem litUnit_any (B b : Nat) (ys : List UInt8) (n : Nat) (hn : n ≤ 1114111) (w : World) (hI : IsBT 184 B b ys w) (hlen : ys.length ≤ 100000000000) (hBw : B ≤ w.heap.size) :
    Calls Tryz.prog 169 #[.pointer (some ⟨b, 0, none⟩), .int .i64 (n : Int)] w fun e w' => (∃ v, e = .returned v) ∧ IsBT 184 B b (ys ++ uniR n) w' ∧ Below B w w' ∧ Spare b w w' := by
  have cS := hide (btStr btBuilder B b ys [92, 117] w hI (by simp; omega) hBw)
  have cH := hide (fun w => hex_any (n : Int) 4 w (by omega) (by omega))
  have h4 := pHex4_len (n : Int)
  have hu : uniR n = [92, 117] ++ pHex (n : Int) 4 := rfl
  rw [hu]
  generalize pHex (n : Int) 4 = hx at cH h4 ⊢
  clear hu
  go_enter Tryz.func169, Tryz.ntmps169
  go_wp2_with (go_at_call 126; refine (cS.out).mono ?_)
  rintro e w1 ⟨⟨v, rfl⟩, hI1, hb1, hs1⟩
  have hz1 := hb1.size
  go_wp2_with (go_at_call 213; refine (cH.out _).mono ?_)
  rintro e w2 ⟨rfl, hb2⟩
  have hI2 := isBT_keep hI1 hb2
  have hz2 := hb2.size
  go_wp2_with (go_at_call 126; refine (btStr btBuilder B b _ hx _ hI2 (by simp; omega) (by omega)).mono ?_)
  rintro e w3 ⟨⟨v, rfl⟩, hI3, hb3, hs3⟩
  go_wp2_with fail
  go_end0
  refine ⟨⟨_, rfl⟩, by simpa using hI3, (hb1.trans (hb2.mono (by omega))).trans hb3, ?_⟩
  intro k cs T hk hT hkb
  have h1 := hs1 k cs T hk hT hkb
  exact hs3 k cs T ((hb2.block k (lt_of_heap h1)).trans h1) hT hkb
theorem and_1023 (n : Nat) (hn : n < 4294967296) : bits BinOp.and IntKind.i64 (n : Int) 1023 = (n : Int) % 1024 := by
  show IntKind.i64.wrap ((BitVec.ofInt 64 (n : Int) &&& BitVec.ofInt 64 1023).toNat : Int) = _
  have h1 : (BitVec.ofInt 64 (n : Int)).toNat = n := by rw [BitVec.ofInt_natCast, BitVec.toNat_ofNat]; exact Nat.mod_eq_of_lt (by omega)
  have h2 : (BitVec.ofInt 64 1023).toNat = 2 ^ 10 - 1 := by decide
  rw [BitVec.toNat_and, h1, h2, Nat.and_two_pow_sub_one_eq_mod, IntKind.wrap_i64]
  omega
theorem ints_cell {cs : List Int} {cur : Array Value} {n : Nat} (h : cur.toList.take (n * 1) = ints cs) (hn : n = cs.length) (k : Nat) (c : Int) (hc : cs[k]? = some c) : cur[k]? = some (.int .i64 c) := by
  have hk : k < cs.length := (List.getElem?_eq_some_iff.1 hc).1
  rw [← Array.getElem?_toList, ← List.getElem?_take_of_lt (show k < n * 1 by omega), h]
  simp [ints, hc]
set_option maxHeartbeats 4000000 in
set_option maxRecDepth 100000 in
theorem quote_any (l : List UInt8) (w : World) (hz : l.length ≤ 1000000000) (hT : Lib.Utf8Tabs 1 2 w) :
    Calls Tryz.prog 130 #[.string ⟨l.toArray⟩] w fun e w' => e = .returned (.string ⟨(34 :: (escR l ++ [34])).toArray⟩) ∧ Below w.heap.size w w' := by
  have hm := charsR_len l
  have hgood := charsR_good l
  have hesc : escR l = (charsR l).flatMap quoteI := rfl
  have cC := fun w hT => chars_any l w hz hT
  rw [hesc]
  clear hesc
  generalize charsR l = cs at cC hm hgood ⊢
  have HG := hide hgood
  have cC := hide cC
  obtain ⟨R, hR⟩ : ∃ R, cs.flatMap quoteI = R := ⟨_, rfl⟩
  rw [hR]
  have HR := hide hR
  clear hgood hR
  have hI0 := isBT_new 184 w w.heap.size (Nat.le_refl _)
  have hB0 := (Below.refl w.heap.size w).alloc (Nat.le_refl _) (.cells #[.pointer none, .slice none 0 0] 184)
  go_enter Tryz.func130, Tryz.ntmps130
  go_wp2_with fail
  generalize hW : w.alloc (.cells #[.pointer none, .slice none 0 0] 184) = W at hI0 hB0 ⊢
  clear hW
  have c34 := btByte btBuilder w.heap.size w.heap.size [] 34 _ hI0 (by simp) hB0.size
  rw [show (((34 : UInt8).toNat : Nat) : Int) = 34 from rfl] at c34
  refine c34.mono ?_
  rintro e w1 ⟨rfl, hI1, hb1, _⟩
  have hB1 := hB0.trans hb1
  have hT1 := Utf8Tabs_below hT hB1
  clear c34
  go_wp2_with fail
  refine (cC.out _ hT1).mono ?_
  rintro e w2 ⟨v, rfl, hown, hb2⟩
  have hI2 := isBT_keep hI1 hb2
  have hB2 := hB1.trans (hb2.mono hB1.size)
  have hlt1 := isBT_lt hI1
  clear hI0 hB0 hI1 hb1 hT1
  rcases hown.2 with ⟨rfl, hn0⟩ | ⟨g, cap, cur, rfl, hBg, hg, _, _, _, htake⟩
  · have hcs : cs = [] := List.eq_nil_of_length_eq_zero hn0
    have HR2 := hide (show R = [] by rw [← HR.out, hcs]; rfl)
    clear hown HR hn0 hcs
    go_wp2_with fail
    go_loop [10] (fun i => i = .int .i64 0) (fun _ => 0)
    case atStart => rfl
    case round =>
      subst hrel
      have hz2 := hB2.size
      go_wp2_with fail
      have c34 := btByte btBuilder w.heap.size w.heap.size _ 34 _ hI2 (by simp) hz2
      rw [show (((34 : UInt8).toNat : Nat) : Int) = 34 from rfl] at c34
      refine c34.mono ?_
      rintro e w3 ⟨rfl, hI3, hb3, _⟩
      have hB3 := hB2.trans hb3
      go_wp2_with fail
      refine (btString w.heap.size w.heap.size _ _ hI3 hB3.size).mono ?_
      rintro e w4 ⟨rfl, hb4⟩
      go_wp2_with fail
      go_ret
      exact ⟨by rw [HR2.out]; rfl, hB3.trans hb4⟩
  · have hcell := ints_cell htake rfl
    have hgb : g ≠ w.heap.size := by omega
    have hbk : Blk w2 g 3 cur := hg
    clear hown htake hg
    go_wp2_with fail
    go_loopw [10] (fun i wr => ∃ (k : Nat) (ys : List UInt8), i = .int .i64 (k : Int) ∧ k ≤ cs.length ∧ ys.length ≤ 12 * k + 1 ∧ IsBT 184 w.heap.size w.heap.size ys wr ∧ Blk wr g 3 cur ∧ Below w.heap.size w wr ∧ Hid (ys = 34 :: (cs.take k).flatMap quoteI)) (fun i _ => cs.length - (intOf i).toNat)
    case atStart => exact ⟨0, [34], rfl, Nat.zero_le _, by simp, hI2, hbk, hB2, rfl⟩
    case round =>
      obtain ⟨k, ys, rfl, hk, hyk, hI, hbk, hb, hys⟩ := hrel
      have hbz := hb.size
      by_cases hlt : k < cs.length
      · obtain ⟨c, hc⟩ : ∃ c, cs[k]? = some c := ⟨_, List.getElem?_eq_getElem hlt⟩
        have hcc := hbk.cell k
        rw [hcell k c hc] at hcc
        have hgc := HG.out c (List.mem_of_getElem? hc)
        obtain ⟨hcn, hcb⟩ := good_nat hgc
        obtain ⟨m, rfl⟩ : ∃ m : Nat, c = (m : Int) := ⟨c.toNat, hcn.symm⟩
        have hm1 : m ≤ 1114111 := by omega
        have hnx := hide (show ys ++ quoteC m = 34 :: (cs.take (k + 1)).flatMap quoteI by
          rw [List.take_add_one, hc, hys.out]; simp [quoteI])
        have hql := (quoteC_len m).2
        have cP := hide (fun w => plainC_any m hm1 w)
        have hkm : (k : Int) < (cs.length : Int) := by omega
        clear hgc hcn hcb hc hys
        by_cases hp : plainC m = true
        · obtain ⟨p1, p2, p3, p4, _⟩ := plainC_octet m hp
          rw [p1] at hnx
          have cP := hide (fun w => (hp ▸ cP.out w))
          have hwr : IntKind.u8.wrap (m : Int) = (m : Int) := by
            unfold IntKind.wrap
            simp [IntKind.bits]
            omega
          have cB := btByte btBuilder w.heap.size w.heap.size ys (u8 m) wr hI (by omega) hbz
          rw [p4] at cB
          have cB := hide cB
          clear p1 p2 p4 hql
          go_wp2_with (first | (go_at_call 168; refine (cP.out _).mono ?_; rintro e w3 ⟨rfl, rfl⟩) | (go_at_call 127; refine (cB.out).mono ?_; rintro e w3 ⟨rfl, hI3, hb3, hs3⟩))
          go_roundw
          case rel => exact ⟨k + 1, ys ++ [u8 m], by go_num, by omega, by simp; omega, hI3, hs3 _ _ _ hbk (by decide) hgb, hb.trans hb3, hnx⟩
          case measure => simp [intOf]; omega
        · have hpf : plainC m = false := by simpa using hp
          have cP := hide (fun w => (hpf ▸ cP.out w))
          by_cases hg : 65535 < m
          · have hq : quoteC m = uniR (55296 + (m - 65536) / 1024) ++ uniR (56320 + (m - 65536) % 1024) := by unfold quoteC; rw [if_neg hp, if_pos hg]
            rw [hq] at hnx hql
            obtain ⟨n, hn⟩ : ∃ n, m - 65536 = n := ⟨_, rfl⟩
            rw [hn] at hnx hql
            have hmn : (m : Int) - 65536 = (n : Int) := by omega
            have hlu := uniR_len (55296 + n / 1024)
            have hlv := uniR_len (56320 + n % 1024)
            have cU := litUnit_any w.heap.size w.heap.size ys (55296 + n / 1024) (by omega) wr hI (by omega) hbz
            rw [show (((55296 + n / 1024 : Nat)) : Int) = 55296 + (n : Int) / 1024 by simp] at cU
            have cV := fun ys w1 hI hl hB => litUnit_any w.heap.size w.heap.size ys (56320 + n % 1024) (by omega) w1 hI hl hB
            rw [show (((56320 + n % 1024 : Nat)) : Int) = 56320 + (n : Int) % 1024 by simp] at cV
            have cU := hide cU; have cV := hide cV
            have hgd : (65535 : Int) < (m : Int) := by omega
            clear hp hpf hq hn
            go_wp2_with (first | (go_at_call 168; refine (cP.out _).mono ?_; rintro e w3 ⟨rfl, rfl⟩))
            refine (cU.out).mono ?_
            rintro e w3 ⟨⟨v, rfl⟩, hI3, hb3, hs3⟩
            have hbk3 := hs3 _ _ _ hbk (by decide) hgb
            have hB3 := hb.trans hb3
            have hbz3 := hB3.size
            clear hI hb3 hs3 hb
            have hcU : ys.length + 6 ≤ 100000000000 := by omega
            go_wp2_with fail
            rw [and_1023 n (by omega), IntWalk.wrap64_in _ (by omega)]
            refine (cV.out (ys ++ uniR (55296 + n / 1024)) _ hI3 (by simp; omega) hbz3).mono ?_
            rintro e w4 ⟨⟨v4, rfl⟩, hI4, hb4, hs4⟩
            have hbk4 := hs4 _ _ _ hbk3 (by decide) hgb
            have hB4 := hB3.trans hb4
            clear hI3 hb4 hs4 hB3
            go_wp2_with fail
            go_roundw
            case rel => exact ⟨k + 1, ys ++ (uniR (55296 + n / 1024) ++ uniR (56320 + n % 1024)), by go_num, by omega, by simp; omega, by rw [← List.append_assoc]; exact hI4, hbk4, hB4, hnx⟩
            case measure => simp [intOf]; omega
          · have hq : quoteC m = uniR m := by unfold quoteC; rw [if_neg hp, if_neg hg]
            rw [hq] at hnx hql
            have hgd : decide ((65535 : Int) < (m : Int)) = false := by simp; omega
            have hlu := uniR_len m
            have cU := hide (litUnit_any w.heap.size w.heap.size ys m (by omega) wr hI (by omega) hbz)
            clear hp hpf hq hg
            go_wp2_with (first | (go_at_call 168; refine (cP.out _).mono ?_; rintro e w3 ⟨rfl, rfl⟩) | (go_at_call 169; refine (cU.out).mono ?_; rintro e w3 ⟨⟨v, rfl⟩, hI3, hb3, hs3⟩))
            go_roundw
            case rel => exact ⟨k + 1, ys ++ uniR m, by go_num, by omega, by simp; omega, hI3, hs3 _ _ _ hbk (by decide) hgb, hb.trans hb3, hnx⟩
            case measure => simp [intOf]; omega
      · have hk2 : k = cs.length := by omega
        have hy2 : ys = 34 :: R := by rw [hys.out, hk2, List.take_length, HR.out]
        subst hy2
        have hge : decide ((k : Int) < (cs.length : Int)) = false := by simp; omega
        clear hk2 hys HR
        go_wp2_with fail
        have c34 := btByte btBuilder w.heap.size w.heap.size _ 34 _ hI (by omega) hbz
        rw [show (((34 : UInt8).toNat : Nat) : Int) = 34 from rfl] at c34
        refine c34.mono ?_
        rintro e w3 ⟨rfl, hI3, hb3, _⟩
        have hB3 := hb.trans hb3
        go_wp2_with fail
        refine (btString w.heap.size w.heap.size _ _ hI3 hB3.size).mono ?_
        rintro e w4 ⟨rfl, hb4⟩
        go_wp2_with fail
        go_ret
        exact ⟨rfl, hB3.trans hb4⟩
end Go.Proofs.YtnepogddjinpoaaGreatDoor

namespace Go.Proofs.YtnepogddjinpoaaGreatDoor
open Go.RowKit
set_option linter.unusedVariables false
set_option linter.unusedSimpArgs false

theorem lowerL_any (l : List UInt8) (w : World) (hl : l.length ≤ 4611686018427387903) :
    Calls Tryz.prog 202 #[.string ⟨l.toArray⟩] w fun e w' => e = .returned (.string ⟨(l.map smallB).toArray⟩) ∧ Below w.heap.size w w' := by
  have hc := hide (lower_any ⟨l.toArray⟩ w (by rw [mk_size]; omega))
  go_enter Tryz.func202, Tryz.ntmps202
  go_wp2_with (go_at_call 225; refine (Hid.out hc).mono ?_; rintro e w1 ⟨rfl, hb⟩)
  go_ret
  exact ⟨rfl, hb⟩
set_option maxHeartbeats 400000 in
theorem ender_pays : PredB Tryz.prog 215 #[] ender := by
  intro W c
  have he : ender c = (c.toNat == 47 || c.toNat == 63 || c.toNat == 35) := rfl
  by_cases h1 : c.toNat = 47
  · rw [show ender c = true by rw [he]; simp [h1]]
    have e1 : ((c.toNat : Int) == 47) = true := by simp; omega
    clear he h1
    go_enter Tryz.func215, Tryz.ntmps215
    go_wp2
    go_ret
    exact ⟨rfl, rfl⟩
  · have e1 : ((c.toNat : Int) == 47) = false := by simp; omega
    by_cases h2 : c.toNat = 63
    · rw [show ender c = true by rw [he]; simp [h2]]
      have e2 : ((c.toNat : Int) == 63) = true := by simp; omega
      clear he h1 h2
      go_enter Tryz.func215, Tryz.ntmps215
      go_wp2
      go_ret
      exact ⟨rfl, rfl⟩
    · have e2 : ((c.toNat : Int) == 63) = false := by simp; omega
      by_cases h3 : c.toNat = 35
      · rw [show ender c = true by rw [he]; simp [h3]]
        have e3 : ((c.toNat : Int) == 35) = true := by simp; omega
        clear he h1 h2 h3
        go_enter Tryz.func215, Tryz.ntmps215
        go_wp2
        go_ret
        exact ⟨rfl, rfl⟩
      · rw [show ender c = false by rw [he]; simp [h1, h2, h3]]
        have e3 : ((c.toNat : Int) == 35) = false := by simp; omega
        clear he h1 h2 h3
        go_enter Tryz.func215, Tryz.ntmps215
        go_wp2
        go_ret
        exact ⟨rfl, rfl⟩
set_option maxHeartbeats 2000000 in
set_option maxRecDepth 100000 in
theorem scheme_any (l : List UInt8) (w : World) (hl : l.length ≤ 4611686018427387903) :
    Calls Tryz.prog 171 #[.string ⟨l.toArray⟩] w fun e w' => e = .returned (.tuple #[.string ⟨(schemeB l).1.toArray⟩, .bool (schemeB l).2]) ∧ Below w.heap.size w w' := by
  obtain ⟨s, hs⟩ : ∃ s : ByteArray, (⟨l.toArray⟩ : ByteArray) = s := ⟨_, rfl⟩
  have hz : s.size = l.length := by rw [← hs]; exact mk_size l
  have hd : s.data.toList = l := by rw [← hs]
  have cI := strings_IndexByte s 58 w
  rw [hd] at cI
  rw [show (58 : Int).toNat.toUInt8 = 58 from rfl] at cI
  rw [hs]
  rcases cutB_idx 58 l with ⟨h1, h2⟩ | ⟨k, h1, h2, h3⟩
  · rw [h1] at cI
    rw [show schemeB l = ([], false) by unfold schemeB; rw [h2]; rfl]
    have cI := hide cI
    clear hs hz hd h1 h2
    go_enter Tryz.func171, Tryz.ntmps171
    go_wp2_with (go_at_call 212; refine (Hid.out cI).mono ?_; rintro e w' ⟨rfl, rfl⟩)
    go_ret2
    exact ⟨rfl, Below.refl _ _⟩
  · rw [h1] at cI
    have c1 : (0 : Int) ≤ (k : Int) := by omega
    have c2 : (k : Int) ≤ (s.size : Int) := by omega
    have c5 : (s.size : Int) ≤ 4611686018427387903 := by omega
    have hx : s.extract 0 k = ⟨(l.take k).toArray⟩ := by rw [Lib.extract_upto, hd]
    have hxz : (s.extract 0 k).size = k := by rw [hx, mk_size, List.length_take]; omega
    have hxd : (s.extract 0 k).data.toList = l.take k := by rw [hx]
    have hk : schemeB l = if (l.take k).any ender then ([], false) else ((l.take k).map smallB, true) := by
      unfold schemeB; rw [h3]
      cases (l.take k).any ender <;> rfl
    obtain ⟨cap, W1, hcv, hrow, hbel, hlt, hcap⟩ := conv_bytes w (s.extract 0 k)
    rw [hxd] at hrow
    rw [hxz] at hcv
    have cC := containsFuncB 215 #[] (enters_of Tryz.func215 (by kernel_rfl) rfl) ender ender_pays (l.take k) w.heap.size k cap W1 hrow (by rw [List.length_take]; omega) (by omega)
    have cL := hide (fun w => lowerL_any (l.take k) w (by rw [List.length_take]; omega))
    rw [← hx] at cL
    rcases Bool.eq_false_or_eq_true ((l.take k).any ender) with hb | hb
    · rw [hb] at cC
      rw [hk, hb]
      have cI := hide cI; have cC := hide cC
      have H := hide (And.intro hs (And.intro hz (And.intro hd (And.intro h1 (And.intro h3 (And.intro hx (And.intro hxz hxd)))))))
      have HR := hide hrow; have HB := hide hbel
      clear hs hz hd h1 h3 hx hxz hxd hrow hbel hk hb
      go_enter Tryz.func171, Tryz.ntmps171
      go_wp2_with (first | (go_at_call 212; refine (Hid.out cI).mono ?_; rintro e w' ⟨rfl, rfl⟩) | (go_at_call 150; refine (Hid.out cC).mono ?_; rintro e w1 ⟨rfl, rfl⟩))
      go_ret2
      exact ⟨rfl, HB.out⟩
    · rw [hb] at cC
      rw [hk, hb]
      have cI := hide cI; have cC := hide cC
      have H := hide (And.intro hs (And.intro hz (And.intro hd (And.intro h1 (And.intro h3 (And.intro hx (And.intro hxz hxd)))))))
      have HR := hide hrow; have HB := hide hbel
      clear hs hz hd h1 h3 hx hxz hxd hrow hbel hk hb
      go_enter Tryz.func171, Tryz.ntmps171
      go_wp2_with (first | (go_at_call 212; refine (Hid.out cI).mono ?_; rintro e w' ⟨rfl, rfl⟩) | (go_at_call 150; refine (Hid.out cC).mono ?_; rintro e w1 ⟨rfl, rfl⟩) | (go_at_call 202; refine (cL.out _).mono ?_; rintro e w2 ⟨rfl, hb2⟩))
      go_ret2
      exact ⟨rfl, below_step HB.out hb2⟩
end Go.Proofs.YtnepogddjinpoaaGreatDoor

namespace Go.Proofs.YtnepogddjinpoaaGreatDoor
open Go.RowKit
set_option linter.unusedVariables false
set_option linter.unusedSimpArgs false

set_option maxHeartbeats 1000000 in
set_option maxRecDepth 100000 in
theorem allowed_any (l : List UInt8) (w : World) : Calls Tryz.prog 172 #[.string ⟨l.toArray⟩] w fun e w' => e = .returned (.bool (allowB l)) ∧ w = w' := by
  have ha : allowB l = (l == [104, 116, 116, 112] || (l == [104, 116, 116, 112, 115] || l == [109, 97, 105, 108, 116, 111])) := rfl
  rw [ha]
  clear ha
  rcases Bool.eq_false_or_eq_true (l == [104, 116, 116, 112]) with g1 | g1
  · rw [g1]
    go_enter Tryz.func172, Tryz.ntmps172
    go_wp2_with fail
    go_ret
    exact ⟨rfl, rfl⟩
  · rcases Bool.eq_false_or_eq_true (l == [104, 116, 116, 112, 115]) with g2 | g2
    · rw [g1, g2]
      go_enter Tryz.func172, Tryz.ntmps172
      go_wp2_with fail
      go_ret
      exact ⟨rfl, rfl⟩
    · rw [g1, g2]
      go_enter Tryz.func172, Tryz.ntmps172
      go_wp2_with fail
      go_ret
      exact ⟨by simp, rfl⟩
set_option maxHeartbeats 1000000 in
set_option maxRecDepth 100000 in
theorem filter_any (l : List UInt8) (w : World) (hz : l.length ≤ 100000000) (hT : Lib.Utf8Tabs 1 2 w) :
    Calls Tryz.prog 133 #[.string ⟨l.toArray⟩] w fun e w' => e = .returned (.string ⟨(filterB l).toArray⟩) ∧ Below w.heap.size w w' := by
  have cS := hide (fun w => scheme_any l w (by omega))
  have hf : filterB l = if (schemeB l).2 && !allowB (schemeB l).1 then markerL else pctR true (repairR l) := rfl
  have cA := hide (fun w => allowed_any (schemeB l).1 w)
  have cP := hide (fun w hT => normal_any l w hz hT)
  generalize schemeB l = sc at cS hf cA
  obtain ⟨x, b⟩ := sc
  simp only at cS hf cA
  generalize allowB x = ab at cA hf
  cases b
  · have HF := hide (show filterB l = pctR true (repairR l) by rw [hf]; rfl)
    clear hf
    go_enter Tryz.func133, Tryz.ntmps133
    go_wp2_with fail
    refine (cS.out _).mono ?_
    rintro e w1 ⟨rfl, hb1⟩
    go_wp2_with (go_at_call 134; refine (cP.out _ (Utf8Tabs_below hT hb1)).mono ?_; rintro e w2 ⟨rfl, hb2⟩)
    go_ret
    exact ⟨by rw [HF.out]; rfl, below_step hb1 hb2⟩
  · cases ab
    · have HF := hide (show filterB l = markerL by rw [hf]; rfl)
      clear hf
      go_enter Tryz.func133, Tryz.ntmps133
      go_wp2_with fail
      refine (cS.out _).mono ?_
      rintro e w1 ⟨rfl, hb1⟩
      go_wp2_with (go_at_call 172; refine (cA.out _).mono ?_; rintro e w2 ⟨rfl, rfl⟩)
      go_ret
      exact ⟨by rw [HF.out]; rfl, hb1⟩
    · have HF := hide (show filterB l = pctR true (repairR l) by rw [hf]; rfl)
      clear hf
      go_enter Tryz.func133, Tryz.ntmps133
      go_wp2_with fail
      refine (cS.out _).mono ?_
      rintro e w1 ⟨rfl, hb1⟩
      go_wp2_with (first | (go_at_call 172; refine (cA.out _).mono ?_; rintro e w2 ⟨rfl, rfl⟩) | (go_at_call 134; refine (cP.out _ (Utf8Tabs_below hT hb1)).mono ?_; rintro e w2 ⟨rfl, hb2⟩))
      go_ret
      exact ⟨by rw [HF.out]; rfl, below_step hb1 hb2⟩
end Go.Proofs.YtnepogddjinpoaaGreatDoor
