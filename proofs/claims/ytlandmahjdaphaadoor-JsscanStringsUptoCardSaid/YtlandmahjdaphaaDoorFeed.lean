/-
  jsscan.Feed.
-/
import Derived.Test.YtlandmahjdaphaaDoorScanStep
import Derived.Test.YtlandmahjdaphaaDoorStr
namespace Go.Proofs.YtlandmahjdaphaaDoor
open Go.RowKit
set_option linter.unusedVariables false
set_option linter.unusedSimpArgs false

theorem feed_take (p : Pos) (s : List UInt8) (k : Nat) (c : UInt8) (h : s[k]? = some c) : feedB p (s.take (k + 1)) = stepB (feedB p (s.take k)) c := by
  rw [List.take_add_one, h, feedB_app]; rfl
set_option maxHeartbeats 2000000 in
set_option maxRecDepth 100000 in
theorem feed_any (p : Pos) (l : List UInt8) (w : World) (hp : p.1 ≤ 15) (hw : p.2.length ≤ 16) (hz : l.length ≤ 4611686018427387903) (ht : Lib.TabIs Tryd.prog w "strings.asciiSpace" .u8 Lib.asciiSpaceTab) :
    Calls Tryd.prog 9 #[.int .i64 (p.1 : Int), .string ⟨p.2.toArray⟩, .string ⟨l.toArray⟩] w fun e w' => e = .returned (.tuple #[.int .i64 ((feedB p l).1 : Int), .string ⟨(feedB p l).2.toArray⟩]) ∧ Below w.heap.size w w' := by
  obtain ⟨cap, W1, hcv, hrow, hbel, hlt, hcap⟩ := conv_bytes w ⟨l.toArray⟩
  have HR := hide (show ByteRow W1 w.heap.size l by simpa using hrow)
  have HT := hide ht
  clear hrow ht
  have hsz : (⟨l.toArray⟩ : ByteArray).size = l.length := mk_size l
  have hli : (l.length : Int) ≤ 4611686018427387903 := by omega
  rw [hsz] at hcv hcap
  go_enter Tryd.func9, Tryd.ntmps9
  go_wp2
  clear hcv
  go_loopw [0, 1, 13] (fun a b i wr => ∃ (k : Nat) (q : Pos), a = .int .i64 (q.1 : Int) ∧ b = .string ⟨q.2.toArray⟩ ∧ i = .int .i64 (k : Int) ∧ k ≤ l.length ∧ q.1 ≤ 15 ∧ q.2.length ≤ 16 ∧ Below W1.heap.size W1 wr ∧ Hid (q = feedB p (l.take k))) (fun _ _ i _ => l.length - (intOf i).toNat)
  case atStart => exact ⟨0, p, rfl, rfl, rfl, Nat.zero_le _, hp, hw, Below.refl _ _, rfl⟩
  case round =>
    obtain ⟨k, q, rfl, rfl, rfl, hk, hq1, hq2, hb, hrel⟩ := hrel
    by_cases hlt2 : k < l.length
    · obtain ⟨c, hc⟩ : ∃ c, l[k]? = some c := ⟨_, List.getElem?_eq_getElem hlt2⟩
      have hcell := (HR.out.below hb hlt).cell hc
      have HF := hide (show stepB q c = feedB p (l.take (k + 1)) by rw [feed_take p l k c hc, hrel.out])
      have hn := stepB_le q c hq1 hq2
      have cS := step_any q c wr hq1 hq2 (tabs_below gSpace HT.out (hbel.trans (hb.mono (Nat.le_of_lt hlt))))
      generalize stepB q c = r at HF hn cS
      obtain ⟨r1, r2⟩ := r
      obtain ⟨q1, q2⟩ := q
      simp only at hn cS hq1 hq2
      have cS := hide cS
      have hki : (k : Int) < (l.length : Int) := by omega
      have hbz := hb.size
      clear hc hrel
      go_wp2_with (go_at_call 17; refine (cS.out).mono ?_; rintro e w2 ⟨rfl, hb2⟩)
      go_roundw
      case rel => exact ⟨k + 1, (r1, r2), rfl, rfl, by go_num, by omega, hn.1, hn.2, hb.trans (hb2.mono hbz), HF⟩
      case measure => simp [intOf]; omega
    · have hk2 : k = l.length := by omega
      have hqe : q = feedB p l := by rw [hrel.out, hk2, List.take_length]
      subst hqe
      have hge : decide ((k : Int) < (l.length : Int)) = false := by simp; omega
      have hBB := hbel.trans (hb.mono (Nat.le_of_lt hlt))
      clear hrel hk2
      go_wp2
      go_ret2
      exact ⟨rfl, hBB⟩
end Go.Proofs.YtlandmahjdaphaaDoor
