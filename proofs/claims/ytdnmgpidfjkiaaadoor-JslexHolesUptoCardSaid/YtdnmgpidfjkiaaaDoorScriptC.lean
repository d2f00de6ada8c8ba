/-
  The page's machine of scripts: Feed.
-/
import Derived.Test.YtdnmgpidfjkiaaaDoorScriptB
namespace Go.Proofs.YtdnmgpidfjkiaaaDoor
open Go.RowKit
set_option linter.unusedVariables false
set_option linter.unusedSimpArgs false

set_option maxHeartbeats 2000000 in
set_option maxRecDepth 100000 in
theorem script_01 (p : Nat) (hp : p = 0 ∨ p = 1) (word : List UInt8) (c : UInt8) (w : World) (hw : word.length ≤ 16) :
    Calls Tryd.prog 50 #[.int .i64 (p : Int), .string ⟨word.toArray⟩, .int .u8 (c.toNat : Int)] w fun e w' => e = .returned (.tuple #[.int .i64 ((codeB p word c).1 : Int), .string ⟨(codeB p word c).2.toArray⟩]) ∧ Below w.heap.size w w' := by
  have cC := hide (fun w => code14_any p word c w hp hw)
  generalize codeB p word c = q at cC ⊢
  obtain ⟨q1, q2⟩ := q
  simp only at cC ⊢
  rcases Bool.eq_false_or_eq_true ((c.toNat : Int) == 10) with k1 | k1 <;> rcases Bool.eq_false_or_eq_true ((c.toNat : Int) == 13) with k2 | k2 <;> rcases hp with rfl | rfl
  all_goals
    go_enter Tryd.func50, Tryd.ntmps50
    go_wp2_with fail
    refine (cC.out _).mono ?_
    rintro e w1 ⟨rfl, hb1⟩
    go_wp2_with fail
    go_ret2
    exact ⟨rfl, hb1⟩
set_option maxHeartbeats 2000000 in
set_option maxRecDepth 100000 in
theorem script_14 (word : ByteArray) (c : UInt8) (w : World) :
    Calls Tryd.prog 50 #[.int .i64 14, .string word, .int .u8 (c.toNat : Int)] w fun e w' => e = .returned (.tuple #[.int .i64 ((slashedB 14 c).1 : Int), .string ⟨(slashedB 14 c).2.toArray⟩]) ∧ Below w.heap.size w w' := by
  have cC := hide (fun w => code14_any 0 [] c w (.inl rfl) (by decide))
  have hs : slashedB 14 c = if (c.toNat : Int) == (47 : Nat) then (6, []) else if (c.toNat : Int) == (42 : Nat) then (7, []) else codeB 0 [] c := by
    unfold slashedB; rw [eq_int c 47 47 rfl, eq_int c 42 42 rfl]; rfl
  rw [hs]
  clear hs
  generalize codeB 0 [] c = q at cC ⊢
  rcases Bool.eq_false_or_eq_true ((c.toNat : Int) == 10) with k1 | k1 <;> rcases Bool.eq_false_or_eq_true ((c.toNat : Int) == 13) with k2 | k2
  all_goals
    rcases Bool.eq_false_or_eq_true ((c.toNat : Int) == (47 : Nat)) with g1 | g1
    · have g1' : ((c.toNat : Int) == 47) = true := g1
      rw [g1, if_pos rfl]
      go_enter Tryd.func50, Tryd.ntmps50
      go_wp2_with fail
      go_ret2
      exact ⟨rfl, Below.refl _ _⟩
    · have g1' : ((c.toNat : Int) == 47) = false := g1
      rw [g1, if_neg (by decide)]
      rcases Bool.eq_false_or_eq_true ((c.toNat : Int) == (42 : Nat)) with g2 | g2
      · have g2' : ((c.toNat : Int) == 42) = true := g2
        rw [g2, if_pos rfl]
        go_enter Tryd.func50, Tryd.ntmps50
        go_wp2_with fail
        go_ret2
        exact ⟨rfl, Below.refl _ _⟩
      · have g2' : ((c.toNat : Int) == 42) = false := g2
        rw [g2, if_neg (by decide)]
        obtain ⟨q1, q2⟩ := q
        go_enter Tryd.func50, Tryd.ntmps50
        go_wp2_with fail
        refine (cC.out _).mono ?_
        rintro e w1 ⟨rfl, hb1⟩
        go_wp2_with fail
        go_ret2
        exact ⟨rfl, hb1⟩
theorem script_any (q : Pos) (c : UInt8) (w : World) (hp : q.1 ≤ 15) (hw : q.2.length ≤ 16) :
    Calls Tryd.prog 50 #[.int .i64 (q.1 : Int), .string ⟨q.2.toArray⟩, .int .u8 (c.toNat : Int)] w fun e w' => e = .returned (.tuple #[.int .i64 ((stepB q c).1 : Int), .string ⟨(stepB q c).2.toArray⟩]) ∧ Below w.heap.size w w' := by
  obtain ⟨n, word⟩ := q
  simp only at hp hw ⊢
  have hn : (n = 0 ∨ n = 1) ∨ n = 2 ∨ n = 3 ∨ n = 4 ∨ n = 5 ∨ n = 6 ∨ n = 7 ∨ n = 8 ∨ n = 9 ∨ n = 10 ∨ n = 11 ∨ n = 12 ∨ n = 13 ∨ n = 15 ∨ n = 14 := by omega
  rcases hn with h | rfl | rfl | rfl | rfl | rfl | rfl | rfl | rfl | rfl | rfl | rfl | rfl | rfl | rfl
  · have : stepB (n, word) c = codeB n word c := by rcases h with rfl | rfl <;> rfl
    rw [this]
    exact script_01 n h word c w hw
  · rw [step14_2]
    exact script_2 ⟨word.toArray⟩ c w
  · rw [step14_3]
    exact script_3 ⟨word.toArray⟩ c w
  · rw [step14_4]
    exact script_4 ⟨word.toArray⟩ c w
  · rw [step14_5]
    exact script_5 ⟨word.toArray⟩ c w
  · rw [step14_6]
    exact script_6 ⟨word.toArray⟩ c w
  · rw [step14_7]
    exact script_7 ⟨word.toArray⟩ c w
  · rw [step14_8]
    exact script_8 ⟨word.toArray⟩ c w
  · rw [step14_9]
    exact script_9 ⟨word.toArray⟩ c w
  · rw [step14_10]
    exact script_10 ⟨word.toArray⟩ c w
  · rw [step14_11]
    exact script_11 ⟨word.toArray⟩ c w
  · rw [step14_12]
    exact script_12 ⟨word.toArray⟩ c w
  · rw [step14_13]
    exact script_13 ⟨word.toArray⟩ c w
  · rw [step14_15]
    exact script_15 ⟨word.toArray⟩ c w
  · exact script_14 ⟨word.toArray⟩ c w
theorem feed_take14 (p : Pos) (s : List UInt8) (k : Nat) (c : UInt8) (h : s[k]? = some c) : feedB p (s.take (k + 1)) = stepB (feedB p (s.take k)) c := by
  rw [List.take_add_one, h, feedB_app]; rfl
set_option maxHeartbeats 2000000 in
set_option maxRecDepth 100000 in
theorem feed14_any (p : Pos) (l : List UInt8) (w : World) (hp : p.1 ≤ 15) (hw : p.2.length ≤ 16) (hz : l.length ≤ 4611686018427387903) :
    Calls Tryd.prog 24 #[.int .i64 2, .int .i64 (p.1 : Int), .string ⟨p.2.toArray⟩, .string ⟨l.toArray⟩] w fun e w' => e = .returned (.tuple #[.int .i64 ((feedB p l).1 : Int), .string ⟨(feedB p l).2.toArray⟩]) ∧ Below w.heap.size w w' := by
  have hsz : (⟨l.toArray⟩ : ByteArray).size = l.length := mk_size l
  go_enter Tryd.func24, Tryd.ntmps24
  go_wp2_with fail
  go_loopw [1, 2, 10] (fun a b i wr => ∃ (k : Nat) (q : Pos), a = .int .i64 (q.1 : Int) ∧ b = .string ⟨q.2.toArray⟩ ∧ i = .int .i64 (k : Int) ∧ k ≤ l.length ∧ q.1 ≤ 15 ∧ q.2.length ≤ 16 ∧ Below w.heap.size w wr ∧ Hid (q = feedB p (l.take k))) (fun _ _ i _ => l.length - (intOf i).toNat)
  case atStart => exact ⟨0, p, rfl, rfl, rfl, Nat.zero_le _, hp, hw, Below.refl _ _, rfl⟩
  case round =>
    obtain ⟨k, q, rfl, rfl, rfl, hk, hq1, hq2, hb, hrel⟩ := hrel
    by_cases hlt2 : k < l.length
    · obtain ⟨c, hc⟩ : ∃ c, l[k]? = some c := ⟨_, List.getElem?_eq_getElem hlt2⟩
      obtain ⟨hlz, hx⟩ := read_at hc
      have HF := hide (show stepB q c = feedB p (l.take (k + 1)) by rw [feed_take14 p l k c hc, hrel.out])
      have hn := stepB_le q c hq1 hq2
      have cS := script_any q c wr hq1 hq2
      generalize stepB q c = r at HF hn cS
      obtain ⟨r1, r2⟩ := r
      obtain ⟨q1, q2⟩ := q
      simp only at hn cS hq1 hq2
      have cS := hide cS
      have hki : (k : Int) < (l.length : Int) := by omega
      have hbz := hb.size
      clear hc hrel
      go_wp2_with (go_at_call 50; refine (cS.out).mono ?_; rintro e w2 ⟨rfl, hb2⟩)
      go_roundw
      case rel => exact ⟨k + 1, (r1, r2), rfl, rfl, by go_num, by omega, hn.1, hn.2, hb.trans (hb2.mono hbz), HF⟩
      case measure => simp [intOf]; omega
    · have hk2 : k = l.length := by omega
      have hqe : q = feedB p l := by rw [hrel.out, hk2, List.take_length]
      subst hqe
      have hge : decide ((k : Int) < (l.length : Int)) = false := by simp; omega
      clear hrel hk2
      go_wp2_with fail
      go_ret2
      exact ⟨rfl, hb⟩
end Go.Proofs.YtdnmgpidfjkiaaaDoor
