/-
  muslinref06.one, muslinplain.SameTexts over rows of texts; muslinref01.Begins.
-/
import Derived.Test.YtlandmahjdaphaaDoorVoid
namespace Go.Proofs.YtlandmahjdaphaaDoor
open Go.RowKit
set_option linter.unusedVariables false
set_option linter.unusedSimpArgs false

theorem NoneToG.any_true {α : Type} {p : α → Bool} {l : List α} {k : Nat} {c : α} (hc : l[k]? = some c) (hp : p c = true) : true = l.any p := by
  symm
  rw [List.any_eq_true]
  exact ⟨c, List.mem_of_getElem? hc, hp⟩
theorem NoneToG.any_false {α : Type} {p : α → Bool} {l : List α} {k : Nat} (h : NoneToG p l k) (hk : l.length ≤ k) : false = l.any p := by
  have := idxG_any p l
  rw [← h.end_ hk] at this
  rw [← this]
  rfl

set_option maxHeartbeats 1000000 in
set_option maxRecDepth 100000 in
theorem one_any (l : List ByteArray) (s : ByteArray) (r n cap : Nat) (w : World) (hrow : TxtRow w r l) (hn : l.length = n) (hs : n ≤ 4611686018427387903) :
    Calls Tryd.prog 111 #[.slice (some ⟨r, 0, none⟩) n cap, .string s] w fun e w' => e = .returned (.bool (l.any fun v => v.toList == s.toList)) ∧ w = w' := by
  have HR := hide hrow; have HN := hide hn
  clear hrow hn
  go_enter Tryd.func111, Tryd.ntmps111
  go_wp2
  go_loop [5] (fun i => ∃ k : Nat, i = .int .i64 (k : Int) ∧ k ≤ n ∧ Hid (NoneToG (fun v : ByteArray => v.toList == s.toList) l k)) (fun i => n - (intOf i).toNat)
  case atStart => exact ⟨0, rfl, Nat.zero_le _, fun j c hj _ => by omega⟩
  case round =>
    obtain ⟨k, rfl, hk, hrel⟩ := hrel
    by_cases hlt : k < n
    · obtain ⟨c, hc⟩ : ∃ c, l[k]? = some c := ⟨_, List.getElem?_eq_getElem (by have := HN.out; omega)⟩
      have q0 := HR.out k c hc
      rcases Bool.eq_false_or_eq_true (c.toList == s.toList) with hpc | hpc
      · have HF := hide (NoneToG.any_true (p := fun v : ByteArray => v.toList == s.toList) hc hpc)
        clear hc
        go_wp2
        go_ret
        exact ⟨ret_bool HF.out, rfl⟩
      · have HF := hide (hrel.out.next hc hpc)
        clear hc
        go_wp2
        go_round
        case rel => exact ⟨k + 1, by go_num, by omega, HF⟩
        case measure => simp [intOf]; omega
    · have HF := hide (hrel.out.any_false (by have := HN.out; omega))
      go_wp2
      go_ret
      exact ⟨ret_bool HF.out, rfl⟩
set_option maxHeartbeats 1000000 in
set_option maxRecDepth 100000 in
theorem refBegins_any (p s : ByteArray) (w : World) :
    Calls Tryd.prog 83 #[.string p, .string s] w fun e w' => e = .returned (.bool (Lib.hasPrefix s.data.toList p.data.toList)) ∧ w = w' := by
  rw [← Lib.hasPrefix_raw]
  by_cases h : p.size ≤ s.size
  · obtain ⟨b, hb⟩ : ∃ b, ((s.extract 0 p.size).toList == p.toList) = b := ⟨_, rfl⟩
    have HB := hide (show (decide (p.size ≤ s.size) && ((s.extract 0 p.size).toList == p.toList)) = b by rw [hb]; simp [h])
    rw [HB.out]
    go_enter Tryd.func83, Tryd.ntmps83
    go_wp2
    go_ret
    exact ⟨rfl, rfl⟩
  · rw [show decide (p.size ≤ s.size) = false by simp; omega]
    go_enter Tryd.func83, Tryd.ntmps83
    go_wp2
    go_ret
    exact ⟨rfl, rfl⟩
end Go.Proofs.YtlandmahjdaphaaDoor
