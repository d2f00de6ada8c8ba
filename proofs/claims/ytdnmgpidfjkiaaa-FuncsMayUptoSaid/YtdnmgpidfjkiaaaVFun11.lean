/-
  funcs: what is told may be: Call of any name.
-/
import Derived.Test.YtdnmgpidfjkiaaaVFun7
import Derived.Test.YtdnmgpidfjkiaaaVFun8
import Derived.Test.YtdnmgpidfjkiaaaVFun9
import Derived.Test.YtdnmgpidfjkiaaaVFun10
namespace Go.Proofs.Ytdnmgpidfjkiaaa
open Go.RowKit
set_option linter.unusedVariables false
set_option linter.unusedSimpArgs false

set_option maxHeartbeats 20000000 in
set_option maxRecDepth 100000 in
theorem arityV_len (w : World) : Calls Try.prog 39 #[.string ⟨#[108, 101, 110]⟩] w fun e w' => e = .returned (.tuple #[.int .i64 1, .int .i64 1, .bool true]) ∧ w = w' := by
  go_enter Try.func39, Try.ntmps39
  go_wp2_with fail
  go_ret3
  exact ⟨rfl, rfl⟩
set_option maxHeartbeats 20000000 in
set_option maxRecDepth 100000 in
theorem arityV_not (w : World) : Calls Try.prog 39 #[.string ⟨#[110, 111, 116]⟩] w fun e w' => e = .returned (.tuple #[.int .i64 1, .int .i64 1, .bool true]) ∧ w = w' := by
  go_enter Try.func39, Try.ntmps39
  go_wp2_with fail
  go_ret3
  exact ⟨rfl, rfl⟩
set_option maxHeartbeats 20000000 in
set_option maxRecDepth 100000 in
theorem arityV_upper (w : World) : Calls Try.prog 39 #[.string ⟨#[117, 112, 112, 101, 114]⟩] w fun e w' => e = .returned (.tuple #[.int .i64 1, .int .i64 1, .bool true]) ∧ w = w' := by
  go_enter Try.func39, Try.ntmps39
  go_wp2_with fail
  go_ret3
  exact ⟨rfl, rfl⟩
set_option maxHeartbeats 20000000 in
set_option maxRecDepth 100000 in
theorem arityV_lower (w : World) : Calls Try.prog 39 #[.string ⟨#[108, 111, 119, 101, 114]⟩] w fun e w' => e = .returned (.tuple #[.int .i64 1, .int .i64 1, .bool true]) ∧ w = w' := by
  go_enter Try.func39, Try.ntmps39
  go_wp2_with fail
  go_ret3
  exact ⟨rfl, rfl⟩
set_option maxHeartbeats 20000000 in
set_option maxRecDepth 100000 in
theorem arityV_eq (w : World) : Calls Try.prog 39 #[.string ⟨#[101, 113]⟩] w fun e w' => e = .returned (.tuple #[.int .i64 2, .int .i64 2, .bool true]) ∧ w = w' := by
  go_enter Try.func39, Try.ntmps39
  go_wp2_with fail
  go_ret3
  exact ⟨rfl, rfl⟩
set_option maxHeartbeats 20000000 in
set_option maxRecDepth 100000 in
theorem arityV_lt (w : World) : Calls Try.prog 39 #[.string ⟨#[108, 116]⟩] w fun e w' => e = .returned (.tuple #[.int .i64 2, .int .i64 2, .bool true]) ∧ w = w' := by
  go_enter Try.func39, Try.ntmps39
  go_wp2_with fail
  go_ret3
  exact ⟨rfl, rfl⟩
set_option maxHeartbeats 20000000 in
set_option maxRecDepth 100000 in
theorem arityV_and (w : World) : Calls Try.prog 39 #[.string ⟨#[97, 110, 100]⟩] w fun e w' => e = .returned (.tuple #[.int .i64 2, .int .i64 2, .bool true]) ∧ w = w' := by
  go_enter Try.func39, Try.ntmps39
  go_wp2_with fail
  go_ret3
  exact ⟨rfl, rfl⟩
set_option maxHeartbeats 20000000 in
set_option maxRecDepth 100000 in
theorem arityV_or (w : World) : Calls Try.prog 39 #[.string ⟨#[111, 114]⟩] w fun e w' => e = .returned (.tuple #[.int .i64 2, .int .i64 2, .bool true]) ∧ w = w' := by
  go_enter Try.func39, Try.ntmps39
  go_wp2_with fail
  go_ret3
  exact ⟨rfl, rfl⟩
set_option maxHeartbeats 20000000 in
set_option maxRecDepth 100000 in
theorem arityV_join (w : World) : Calls Try.prog 39 #[.string ⟨#[106, 111, 105, 110]⟩] w fun e w' => e = .returned (.tuple #[.int .i64 2, .int .i64 2, .bool true]) ∧ w = w' := by
  go_enter Try.func39, Try.ntmps39
  go_wp2_with fail
  go_ret3
  exact ⟨rfl, rfl⟩
set_option maxHeartbeats 20000000 in
set_option maxRecDepth 100000 in
theorem arityV_default (w : World) : Calls Try.prog 39 #[.string ⟨#[100, 101, 102, 97, 117, 108, 116]⟩] w fun e w' => e = .returned (.tuple #[.int .i64 2, .int .i64 2, .bool true]) ∧ w = w' := by
  go_enter Try.func39, Try.ntmps39
  go_wp2_with fail
  go_ret3
  exact ⟨rfl, rfl⟩
set_option maxHeartbeats 20000000 in
set_option maxRecDepth 100000 in
theorem arityV_index (w : World) : Calls Try.prog 39 #[.string ⟨#[105, 110, 100, 101, 120]⟩] w fun e w' => e = .returned (.tuple #[.int .i64 2, .int .i64 2, .bool true]) ∧ w = w' := by
  go_enter Try.func39, Try.ntmps39
  go_wp2_with fail
  go_ret3
  exact ⟨rfl, rfl⟩
set_option maxHeartbeats 20000000 in
set_option maxRecDepth 100000 in
theorem arityV_print (w : World) : Calls Try.prog 39 #[.string ⟨#[112, 114, 105, 110, 116]⟩] w fun e w' => e = .returned (.tuple #[.int .i64 1, .int .i64 8, .bool true]) ∧ w = w' := by
  go_enter Try.func39, Try.ntmps39
  go_wp2_with fail
  go_ret3
  exact ⟨rfl, rfl⟩
set_option maxHeartbeats 20000000 in
set_option maxRecDepth 100000 in
theorem arityV_other (X : ByteArray) (w : World) (h0 : (X.toList == [108, 101, 110]) = false) (h1 : (X.toList == [110, 111, 116]) = false) (h2 : (X.toList == [117, 112, 112, 101, 114]) = false) (h3 : (X.toList == [108, 111, 119, 101, 114]) = false) (h4 : (X.toList == [101, 113]) = false) (h5 : (X.toList == [108, 116]) = false) (h6 : (X.toList == [97, 110, 100]) = false) (h7 : (X.toList == [111, 114]) = false) (h8 : (X.toList == [106, 111, 105, 110]) = false) (h9 : (X.toList == [100, 101, 102, 97, 117, 108, 116]) = false) (h10 : (X.toList == [105, 110, 100, 101, 120]) = false) (h11 : (X.toList == [112, 114, 105, 110, 116]) = false) : Calls Try.prog 39 #[.string X] w fun e w' => e = .returned (.tuple #[.int .i64 0, .int .i64 0, .bool false]) ∧ w = w' := by
  go_enter Try.func39, Try.ntmps39
  go_wp2_with fail
  go_ret3
  exact ⟨rfl, rfl⟩
set_option maxHeartbeats 20000000 in
set_option maxRecDepth 100000 in
theorem printAll_any {n : Nat} {pl : Bool} (a : Option Addr) (c : Nat) (l : List (VT (n + 1))) (w : World) (hl : ArgsV n pl w a l) : ∃ J : List UInt8, J.length ≤ 140737488351232 ∧ ∀ W, Below w.heap.size w W → Calls Try.prog 41 #[.slice a l.length c] W fun e w' => e = .returned (.string ⟨J.toArray⟩) ∧ Below W.heap.size W w' := by
  refine ⟨Lib.join (l.map (printV (n + 1))) [32], ?_, fun W hW => ?_⟩
  · have h1 := join_len [32] (l.map (printV (n + 1)))
    rw [sumBy_map] at h1
    have h2 := sumBy_addc (fun x => (printV (n + 1) x).length) 1 l
    have h3 : sumBy (fun x => (printV (n + 1) x).length) l ≤ sumBy (fun x => 25 * massV (n + 1) x) l := sumBy_le l fun x hx => by have := print_len (n + 1) x (hl.each x hx).2.2.1; omega
    rw [sumBy_mul] at h3
    have h4 := sumBy_len (massV (n + 1)) (massV_pos (n + 1)) l
    have h5 := hl.mass
    simp only [List.length_singleton] at h1
    omega
  · have hlW := hl.step hW
    have cP := hide (prints_any anyB any_okF a c l [32] W hlW.lies (by have := hlW.mass; omega) (fun x hx => (hlW.each x hx).2.2.1) (fun x hx => (hlW.each x hx).1) (by simp))
    clear hl hlW
    go_enter Try.func41, Try.ntmps41
    go_wp2_with fail
    refine (cP.out).mono ?_
    rintro e w1 ⟨rfl, hb1⟩
    go_wp2_with fail
    go_ret
    exact ⟨rfl, hb1⟩
set_option maxHeartbeats 20000000 in
set_option maxRecDepth 100000 in
theorem callPrint (n : Nat) (pl : Bool) (a : Option Addr) (c : Nat) (l : List (VT (n + 1))) (w : World) (hl : ArgsV n pl w a l) (hlen : l.length ≤ 1048576) : Calls Try.prog 24 #[.string ⟨#[112, 114, 105, 110, 116]⟩, .slice a l.length c] w (FRes pl w) := by
  have HA := hide (fun w => arityV_print w)
  obtain ⟨J, hJ, cP⟩ := printAll_any a c l w hl
  have cP := hide cP
  have cM := hide (fun (W : World) => made_any pl J hJ W)
  obtain ⟨T, hT⟩ : ∃ T : ByteArray, (⟨J.toArray⟩ : ByteArray) = T := ⟨_, rfl⟩
  rw [hT] at cP cM
  clear hT hJ hl
  have hR0 := Blk.new w 25 #[.int .i64 0, .int .i64 0, .string ⟨#[]⟩, .slice none 0 0, .slice none 0 0]
  have hB0 := (Below.refl w.heap.size w).alloc (Nat.le_refl _) (.cells #[.int .i64 0, .int .i64 0, .string ⟨#[]⟩, .slice none 0 0, .slice none 0 0] 25)
  by_cases h0 : l.length = 0
  · rw [h0]
    go_enter Try.func24, Try.ntmps24
    go_wp2_with (go_at_call 39; refine (HA.out _).mono ?_; rintro e wa ⟨rfl, rfl⟩)
    have q0 := hR0.cell 0; have q1 := hR0.cell 1; have q2 := hR0.cell 2; have q3 := hR0.cell 3; have q4 := hR0.cell 4
    simp at q0 q1 q2 q3 q4
    (try simp only [Exit.inBlock, Exit.then])
    refine bodyPost_ret (v := .tuple #[.agg #[.int .i64 0, .int .i64 0, .string ⟨#[]⟩, .slice none 0 0, .slice none 0 0], .int .i64 3]) ?_ rfl ⟨⟨0, 0, ⟨#[]⟩, none, 0, 0, none, 0, 0⟩, _, rfl, goodZero _ _ _, hB0⟩
    simp [results, Try.results24, go_sem, q0, q1, q2, q3, q4]
  have p0 : decide ((l.length : Int) < 1) = false := decide_eq_false (by omega)
  have p1 : decide (l.length = 0) = false := decide_eq_false (by omega)
  by_cases h1 : 8 < l.length
  · have hq : decide ((8 : Int) < (l.length : Int)) = true := decide_eq_true (by omega)
    go_enter Try.func24, Try.ntmps24
    go_wp2_with (go_at_call 39; refine (HA.out _).mono ?_; rintro e wa ⟨rfl, rfl⟩)
    have q0 := hR0.cell 0; have q1 := hR0.cell 1; have q2 := hR0.cell 2; have q3 := hR0.cell 3; have q4 := hR0.cell 4
    simp at q0 q1 q2 q3 q4
    (try simp only [Exit.inBlock, Exit.then])
    refine bodyPost_ret (v := .tuple #[.agg #[.int .i64 0, .int .i64 0, .string ⟨#[]⟩, .slice none 0 0, .slice none 0 0], .int .i64 3]) ?_ rfl ⟨⟨0, 0, ⟨#[]⟩, none, 0, 0, none, 0, 0⟩, _, rfl, goodZero _ _ _, hB0⟩
    simp [results, Try.results24, go_sem, q0, q1, q2, q3, q4]
  have hq : decide ((8 : Int) < (l.length : Int)) = false := decide_eq_false (by omega)
  have HSZ0 := hide (show (w.alloc (.cells #[.int .i64 0, .int .i64 0, .string ⟨#[]⟩, .slice none 0 0, .slice none 0 0] 25)).heap.size = w.heap.size + 1 by simp)
  go_enter Try.func24, Try.ntmps24
  go_wp2_with (go_at_call 39; refine (HA.out _).mono ?_; rintro e wa ⟨rfl, rfl⟩)
  generalize w.alloc (.cells #[.int .i64 0, .int .i64 0, .string ⟨#[]⟩, .slice none 0 0, .slice none 0 0] 25) = W0 at hR0 hB0 HSZ0 ⊢
  refine (cP.out _ hB0).mono ?_
  rintro e w0 ⟨rfl, hb0⟩
  have hR0 := hR0.below hb0 hR0.lt
  have HSZ := hide (show w.heap.size + 1 ≤ w0.heap.size by have := HSZ0.out; have := hb0.size; omega)
  have hB0 := hB0.trans (hb0.mono hB0.size)
  have cT := hide (cM.out w0)
  clear hb0 cP cM HSZ0
  go_wp2_with fail
  refine (cT.out).mono ?_
  rintro e w1 ⟨⟨kv, iv, sv, av, nv, cv, bv, mv, ev⟩, er, rfl, hgood, hb1⟩
  have hgood := hgood.less (N := w.heap.size + 1) (by have := HSZ.out; omega)
  have hR1 := hR0.below hb1 hR0.lt
  have hB1 := hB0.trans (hb1.mono hB0.size)
  clear hR0 hB0 hb1
  have r0 := hR1.cell 0; have r1 := hR1.cell 1; have r2 := hR1.cell 2; have r3 := hR1.cell 3; have r4 := hR1.cell 4
  have g0 := hR1.frozen 0; have g1 := hR1.frozen 1; have g2 := hR1.frozen 2; have g3 := hR1.frozen 3; have g4 := hR1.frozen 4
  simp at r0 r1 r2 r3 r4
  have HGD := hide (GoodV.set5 (g := w.heap.size) hgood (by omega) (.int .i64 kv) (.int .i64 iv) (.string sv) (.slice av nv cv) (.slice bv mv ev))
  go_wp2_with fail
  have hR5 := hR1.five5 (.int .i64 kv) (.int .i64 iv) (.string sv) (.slice av nv cv) (.slice bv mv ev)
  have hB5 := below_set5 hB1 (g := w.heap.size) (by omega) (.int .i64 kv) (.int .i64 iv) (.string sv) (.slice av nv cv) (.slice bv mv ev)
  generalize (((((w1.setCell ⟨w.heap.size, 0, none⟩ (.int .i64 kv)).setCell ⟨w.heap.size, 1, none⟩ (.int .i64 iv)).setCell ⟨w.heap.size, 2, none⟩ (.string sv)).setCell ⟨w.heap.size, 3, none⟩ (.slice av nv cv)).setCell ⟨w.heap.size, 4, none⟩ (.slice bv mv ev)) = W5 at hR5 hB5 HGD ⊢
  have q0 := hR5.cell 0; have q1 := hR5.cell 1; have q2 := hR5.cell 2; have q3 := hR5.cell 3; have q4 := hR5.cell 4
  simp at q0 q1 q2 q3 q4
  (try simp only [Exit.inBlock, Exit.then])
  refine bodyPost_ret (v := .tuple #[.agg #[.int .i64 kv, .int .i64 iv, .string sv, .slice av nv cv, .slice bv mv ev], .int .i64 er]) ?_ rfl ⟨⟨kv, iv, sv, av, nv, cv, bv, mv, ev⟩, er, rfl, HGD.out.less (by omega), hB5⟩
  simp [results, Try.results24, go_sem, q0, q1, q2, q3, q4]
theorem eqLit (name l : List UInt8) (h : ¬ name = l) : ((⟨name.toArray⟩ : ByteArray).toList == l) = false := by
  rw [ByteArray.toList_eq]
  simpa using h
theorem call_any (n : Nat) (pl : Bool) (name : List UInt8) (a : Option Addr) (c : Nat) (l : List (VT (n + 1))) (w : World) (hl : ArgsV n pl w a l) (hlen : l.length ≤ 1048576) : Calls Try.prog 24 #[.string ⟨name.toArray⟩, .slice a l.length c] w (FRes pl w) := by
  by_cases h0 : name = [108, 101, 110]
  · subst h0
    exact callOne n pl ⟨#[108, 101, 110]⟩ (fun w => arityV_len w) (by rw [ByteArray.toList_eq]; rfl) (fun x W hx => oneLen n pl x W hx) a c l w hl
  by_cases h1 : name = [110, 111, 116]
  · subst h1
    exact callOne n pl ⟨#[110, 111, 116]⟩ (fun w => arityV_not w) (by rw [ByteArray.toList_eq]; rfl) (fun x W hx => oneNot n pl x W hx) a c l w hl
  by_cases h2 : name = [117, 112, 112, 101, 114]
  · subst h2
    exact callOne n pl ⟨#[117, 112, 112, 101, 114]⟩ (fun w => arityV_upper w) (by rw [ByteArray.toList_eq]; rfl) (fun x W hx => oneUpper n pl x W hx) a c l w hl
  by_cases h3 : name = [108, 111, 119, 101, 114]
  · subst h3
    exact callOne n pl ⟨#[108, 111, 119, 101, 114]⟩ (fun w => arityV_lower w) (by rw [ByteArray.toList_eq]; rfl) (fun x W hx => oneLower n pl x W hx) a c l w hl
  by_cases h4 : name = [101, 113]
  · subst h4
    exact callTwo n pl ⟨#[101, 113]⟩ (fun w => arityV_eq w) (by rw [ByteArray.toList_eq]; rfl) (fun x z W hx hz => twoEq n pl x z W hx hz) a c l w hl hlen
  by_cases h5 : name = [108, 116]
  · subst h5
    exact callTwo n pl ⟨#[108, 116]⟩ (fun w => arityV_lt w) (by rw [ByteArray.toList_eq]; rfl) (fun x z W hx hz => twoLt n pl x z W hx hz) a c l w hl hlen
  by_cases h6 : name = [97, 110, 100]
  · subst h6
    exact callTwo n pl ⟨#[97, 110, 100]⟩ (fun w => arityV_and w) (by rw [ByteArray.toList_eq]; rfl) (fun x z W hx hz => twoAnd n pl x z W hx hz) a c l w hl hlen
  by_cases h7 : name = [111, 114]
  · subst h7
    exact callTwo n pl ⟨#[111, 114]⟩ (fun w => arityV_or w) (by rw [ByteArray.toList_eq]; rfl) (fun x z W hx hz => twoOr n pl x z W hx hz) a c l w hl hlen
  by_cases h8 : name = [106, 111, 105, 110]
  · subst h8
    exact callTwo n pl ⟨#[106, 111, 105, 110]⟩ (fun w => arityV_join w) (by rw [ByteArray.toList_eq]; rfl) (fun x z W hx hz => twoJoin n pl x z W hx hz) a c l w hl hlen
  by_cases h9 : name = [100, 101, 102, 97, 117, 108, 116]
  · subst h9
    exact callTwo n pl ⟨#[100, 101, 102, 97, 117, 108, 116]⟩ (fun w => arityV_default w) (by rw [ByteArray.toList_eq]; rfl) (fun x z W hx hz => twoDefault n pl x z W hx hz) a c l w hl hlen
  by_cases h10 : name = [105, 110, 100, 101, 120]
  · subst h10
    exact callTwo n pl ⟨#[105, 110, 100, 101, 120]⟩ (fun w => arityV_index w) (by rw [ByteArray.toList_eq]; rfl) (fun x z W hx hz => twoIndex n pl x z W hx hz) a c l w hl hlen
  by_cases h11 : name = [112, 114, 105, 110, 116]
  · subst h11
    exact callPrint n pl a c l w hl hlen
  exact callErr pl _ (fun w => arityV_other _ w (eqLit _ _ h0) (eqLit _ _ h1) (eqLit _ _ h2) (eqLit _ _ h3) (eqLit _ _ h4) (eqLit _ _ h5) (eqLit _ _ h6) (eqLit _ _ h7) (eqLit _ _ h8) (eqLit _ _ h9) (eqLit _ _ h10) (eqLit _ _ h11)) a _ c w
end Go.Proofs.Ytdnmgpidfjkiaaa
