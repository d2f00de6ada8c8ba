/-
  slices.Backward at named values.
-/
import Derived.RangeFuncBox
import Derived.RangeFuncLeaves
import Derived.Shelf.Abstract
import Derived.WalkKit
import Derived.OwnWalkIn
import Derived.TacticsInMore
import Derived.LoopNIn
import Derived.LoopIn
import Derived.Test.YtdnmgpidfjkiaaaVEnv
import Derived.Test.YtdnmgpidfjkiaaaRangeLeave
namespace Go.Proofs.Ytdnmgpidfjkiaaa
open Go.RowKit Go.Shelf
attribute [local go_sem] Oper.semAt_some
set_option linter.unusedVariables false
set_option linter.unusedSimpArgs false

/-- What has come, from the back. -/
def dnl (n j : Nat) : List Nat := (List.range' j (n - j)).reverse
theorem dnl_self (n : Nat) : dnl n n = [] := by simp [dnl]
theorem dnl_step {n j : Nat} (h : j < n) : dnl n j = dnl n (j + 1) ++ [j] := by
  unfold dnl
  rw [show n - j = (n - (j + 1)) + 1 by omega, List.range'_succ]
  simp
theorem dnl_len {n j : Nat} : (dnl n j).length = n - j := by simp [dnl]
theorem dnl_mem {n j k : Nat} (hj : j ≤ k) (hk : k < n) : k ∈ dnl n j := by
  simp [dnl]; omega
def encN (es : List NF) (j : Nat) : Array Value := #[.int .i64 (j : Int), (es.getD j ⟨⟨#[]⟩, ⟨0, 0, ⟨#[]⟩, none, 0, 0, none, 0, 0⟩⟩).val]
set_option maxRecDepth 100000 in
set_option maxHeartbeats 4000000 in
theorem back1_in (F : Fence) (n : Nat) (hf : F.fn 63) (hro : F.round = none) (hn : 1 ≤ n) (l Bs n₀ b off cap : Nat) (es : List NF) (hreach : es.length * 96 ≤ 140737488355328) (hb : b < n₀) (hB : Bs < n₀) (J Jx : List Nat → World → Prop)
    (hY : ∀ pre x W, J pre W → pre.length < es.length → YieldAt F (n - 1) Try.prog l (encN es x) W fun e W' => (e = .returned (.bool true) ∧ J (pre ++ [x]) W' ∧ Below n₀ W W') ∨ (e = .returned (.bool false) ∧ Jx (pre ++ [x]) W'))
    (W : World) (hBs : W.cell? ⟨Bs, 0, none⟩ = some (.slice (some ⟨b, off, none⟩) es.length cap)) (hc : ∀ t u, (es.flatMap NF.cells)[t]? = some u → W.cell? ⟨b, off + t, none⟩ = some u) (h0 : J [] W) :
    CallsIn F n Try.prog 63 #[.func (.yield l) #[] #[], .pointer (some ⟨Bs, 0, none⟩)] W fun e W' => (∃ v, e = .returned v) ∧
      ((∃ ys, ys = dnl es.length 0 ∧ J ys W') ∨ (∃ pre, (∃ k, k ≤ es.length ∧ pre = dnl es.length k) ∧ Jx pre W')) := by
  refine callsIn_of_wp Try.func63 rfl hf ?_ hro
  simp only [Try.ntmps63, List.size_toArray, List.length_cons, List.length_nil, Nat.reduceAdd, Nat.reduceSub, Array.replicate_succ, Array.replicate_zero, List.push_toArray, List.append_toArray, List.nil_append, List.cons_append]
  gi_wp2
  gi_loopw [3] (fun i wr => ∃ j : Nat, j ≤ es.length ∧ i = .int .i64 ((j : Int) - 1) ∧ J (dnl es.length j) wr ∧ Below n₀ W wr)
    (fun i _ => (intOf i + 1).toNat)
  case atStart => exact ⟨es.length, Nat.le_refl _, rfl, by rw [dnl_self]; exact h0, Below.refl _ _⟩
  case round =>
    obtain ⟨j, hj, rfl, hJs, hnx⟩ := hrel
    cases j with
    | zero =>
      gi_wp2
      go_end0
      exact ⟨⟨_, rfl⟩, .inl ⟨_, rfl, hJs⟩⟩
    | succ j =>
      have hjl : j < es.length := by omega
      have e1 : (((j + 1 : Nat) : Int) - 1) = (j : Int) := by omega
      rw [e1]
      obtain ⟨e, he⟩ : ∃ e, es[j]? = some e := ⟨_, List.getElem?_eq_getElem hjl⟩
      have hbs := (hnx.cell (p := ⟨Bs, 0, none⟩) hB).trans hBs
      have hcell : ∀ t u, e.cells[t]? = some u → wr.cell? ⟨b, off + j * 6 + t, none⟩ = some u := by
        intro t u hu
        have ht : t < 6 := by have := (List.getElem?_eq_some_iff.1 hu).1; rw [e.cells_len] at this; exact this
        rw [show off + j * 6 + t = off + (j * 6 + t) by omega]
        exact (hnx.cell (p := ⟨b, off + (j * 6 + t), none⟩) hb).trans (hc _ u ((flat6_get es j e t he ht).trans hu))
      have c0 := hcell 0 _ rfl; have c1 := hcell 1 _ rfl; have c2 := hcell 2 _ rfl; have c3 := hcell 3 _ rfl; have c4 := hcell 4 _ rfl; have c5 := hcell 5 _ rfl
      simp only [Nat.add_zero] at c0
      obtain ⟨fn, tmps, assign, body, hy, hR⟩ := hY _ j wr hJs (by rw [dnl_len]; omega)
      have hen : encN es j = #[.int .i64 (j : Int), e.val] := by simp [encN, List.getD, he]
      rw [hen] at hy
      clear hcell hc
      gi_wp2
      refine hR.mono ?_
      rintro e3 W3 (⟨rfl, hJ3, hk3⟩ | ⟨rfl, hJx3⟩)
      · gi_wp2
        go_roundw
        case rel => exact ⟨j, by omega, by go_num, by rw [dnl_step hjl]; exact hJ3, hnx.trans hk3⟩
        case measure => simp [intOf]
      · gi_wp2
        refine bodyPost_ret (results_none rfl _ _ _) rfl ?_
        exact ⟨⟨_, rfl⟩, .inr ⟨_, ⟨j, by omega, (dnl_step hjl).symm⟩, hJx3⟩⟩
set_option maxRecDepth 100000 in
set_option maxHeartbeats 1000000 in
/-- An empty list, whatever its address: no round. -/
theorem back1_nil_in (F : Fence) (n : Nat) (hf : F.fn 63) (hro : F.round = none) (l Bs : Nat) (a : Option Addr) (c : Nat) (J : List Nat → World → Prop) (W : World) (hBs : W.cell? ⟨Bs, 0, none⟩ = some (.slice a 0 c)) (h0 : J [] W) :
    CallsIn F n Try.prog 63 #[.func (.yield l) #[] #[], .pointer (some ⟨Bs, 0, none⟩)] W fun e W' => (∃ v, e = .returned v) ∧ J [] W' := by
  refine callsIn_of_wp Try.func63 rfl hf ?_ hro
  simp only [Try.ntmps63, List.size_toArray, List.length_cons, List.length_nil, Nat.reduceAdd, Nat.reduceSub, Array.replicate_succ, Array.replicate_zero, List.push_toArray, List.append_toArray, List.nil_append, List.cons_append]
  gi_wp2
  gi_loopw [3] (fun i wr => i = .int .i64 (-1) ∧ J [] wr) (fun _ _ => 0)
  case atStart => exact ⟨rfl, h0⟩
  case round =>
    obtain ⟨rfl, hJs⟩ := hrel
    gi_wp2
    go_end0
    exact ⟨⟨_, rfl⟩, hJs⟩
set_option maxHeartbeats 1000000 in
theorem back_in (F : Fence) (n : Nat) (hf : F.fn 44) (hro : F.round = none) (a : Option Addr) (len cap : Nat) (w : World) :
    CallsIn F n Try.prog 44 #[.slice a len cap] w fun e w' => e = .returned (.func (.func 63) #[] #[.pointer (some ⟨w.heap.size, 0, none⟩)]) ∧ w' = w.alloc (.cells #[.slice a len cap] 30) := by
  refine callsIn_of_wp Try.func44 rfl hf ?_ hro
  simp only [Try.ntmps44, List.size_toArray, List.length_cons, List.length_nil, Nat.reduceAdd, Nat.reduceSub, Array.replicate_succ, Array.replicate_zero, List.push_toArray, List.append_toArray, List.nil_append, List.cons_append]
  gi_wp2
  go_ret
  exact ⟨rfl, rfl⟩
/-- All that is there, from the back; or a first part of it. -/
theorem back_stops (F : Fence) (n : Nat) (hf : F.fn 63) (hro : F.round = none) (hn : 1 ≤ n) (Bs : Nat) (a : Option Addr) (cap : Nat) (es : List NF) (hreach : es.length * 96 ≤ 140737488355328) (w : World) (hBs : Bs < w.heap.size)
    (hc : w.cell? ⟨Bs, 0, none⟩ = some (.slice a es.length cap)) (hI : es ≠ [] → ∃ b off, a = some ⟨b, off, none⟩ ∧ b < w.heap.size ∧ ∀ t u, (es.flatMap NF.cells)[t]? = some u → w.cell? ⟨b, off + t, none⟩ = some u) :
    SeqStopsK F n Try.prog 63 #[.pointer (some ⟨Bs, 0, none⟩)] (encN es) (Below w.heap.size) (fun ys => ys = dnl es.length 0) (fun pre => ∃ k, k ≤ es.length ∧ pre = dnl es.length k) es.length w := fun l J Jx W hW _ _ hY h0 => by
  have hc' := (hW.cell (p := ⟨Bs, 0, none⟩) hBs).trans hc
  rcases Classical.em (es = []) with he | he
  · subst he
    exact (back1_nil_in F n hf hro l Bs a cap J W hc' h0).mono fun e W' ⟨he, hj⟩ => ⟨he, .inl ⟨_, by simp [dnl], hj⟩⟩
  · obtain ⟨b, off, rfl, hb, hcs⟩ := hI he
    exact back1_in F n hf hro hn l Bs w.heap.size b off cap es hreach hb hBs J Jx hY W hc' (fun t u ht => (hW.cell (p := ⟨b, off + t, none⟩) hb).trans (hcs t u ht)) h0
end Go.Proofs.Ytdnmgpidfjkiaaa
