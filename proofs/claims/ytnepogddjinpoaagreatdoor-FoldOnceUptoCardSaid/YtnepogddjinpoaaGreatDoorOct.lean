/-
  package octets: small and great letters; strings.IndexByte.
-/
import Derived.Test.YtnepogddjinpoaaGreatDoorBytes
import Derived.Test.YtnepogddjinpoaaGreatDoorM1
import Derived.WalkSpells
import Derived.WalkLawsBesides
import Derived.Shelf.Abstract
import Derived.Lib.Bytealg
namespace Go.Proofs.YtnepogddjinpoaaGreatDoor
open Go.RowKit
set_option linter.unusedVariables false

set_option maxHeartbeats 400000 in
set_option maxRecDepth 100000 in
theorem slite_IndexByte (s : ByteArray) (c : Int) (w : World) :
    Calls Tryz.prog 234 #[.string s, .int .u8 c] w fun e w' => e = .returned (.int .i64 (Lib.indexByte s.data.toList c.toNat.toUInt8)) ∧ w = w' := by
  go_enter Tryz.func234, Tryz.ntmps234
  go_wp2
  rw [run_callFunc_extern Tryz.func245 (by kernel_rfl) (by kernel_rfl) (by kernel_rfl) (e := Extern.BytealgIndexByte.indexByte) (by kernel_rfl), Lib.run_indexByteString]
  simp only [Result.andThen]
  rw [Oper.upon_value]
  go_wp2
  go_ret
  exact ⟨rfl, rfl⟩
set_option maxHeartbeats 400000 in
theorem strings_IndexByte (s : ByteArray) (c : Int) (w : World) :
    Calls Tryz.prog 212 #[.string s, .int .u8 c] w fun e w' => e = .returned (.int .i64 (Lib.indexByte s.data.toList c.toNat.toUInt8)) ∧ w = w' := by
  go_enter Tryz.func212, Tryz.ntmps212
  go_wp2_with (go_at_call 234; refine (slite_IndexByte _ _ _).mono ?_; rintro e w' ⟨rfl, rfl⟩)
  go_ret
  exact ⟨rfl, rfl⟩

set_option maxHeartbeats 400000 in
theorem small_any (c : UInt8) (w : World) : Calls Tryz.prog 227 #[.int .u8 (c.toNat : Int)] w fun e w' => e = .returned (.int .u8 ((smallB c).toNat : Int)) ∧ w = w' := by
  by_cases h : 65 ≤ (c.toNat : Int)
  · by_cases h2 : (c.toNat : Int) ≤ 90
    · rw [smallB_yes c (by omega)]
      go_enter Tryz.func227, Tryz.ntmps227
      go_wp2
      go_ret
      exact ⟨by first | rfl | (congr 2), rfl⟩
    · rw [smallB_no c (by omega)]
      go_enter Tryz.func227, Tryz.ntmps227
      go_wp2
      go_ret
      exact ⟨rfl, rfl⟩
  · rw [smallB_no c (by omega)]
    go_enter Tryz.func227, Tryz.ntmps227
    go_wp2
    go_ret
    exact ⟨rfl, rfl⟩

set_option maxHeartbeats 400000 in
theorem great_any (c : UInt8) (w : World) : Calls Tryz.prog 226 #[.int .u8 (c.toNat : Int)] w fun e w' => e = .returned (.int .u8 ((greatB c).toNat : Int)) ∧ w = w' := by
  by_cases h : 97 ≤ (c.toNat : Int)
  · by_cases h2 : (c.toNat : Int) ≤ 122
    · have e : ((greatB c).toNat : Int) = (c.toNat : Int) - 32 := by rw [greatB_yes c (by omega)]; omega
      rw [e]
      clear e
      go_enter Tryz.func226, Tryz.ntmps226
      go_wp2
      go_ret
      exact ⟨rfl, rfl⟩
    · rw [greatB_no c (by omega)]
      go_enter Tryz.func226, Tryz.ntmps226
      go_wp2
      go_ret
      exact ⟨rfl, rfl⟩
  · rw [greatB_no c (by omega)]
    go_enter Tryz.func226, Tryz.ntmps226
    go_wp2
    go_ret
    exact ⟨rfl, rfl⟩

/-- A function value on octets answers f and leaves the world alone. -/
def MapB (P : Program) (g : Nat) (lb : Array Value) (f : UInt8 → UInt8) : Prop :=
  ∀ (W : World) (x : UInt8), Calls P g (#[.int .u8 (x.toNat : Int)] ++ lb) W fun e w' => e = .returned (.int .u8 ((f x).toNat : Int)) ∧ W = w'

theorem map_step (f : UInt8 → UInt8) (l : List UInt8) (k : Nat) (c : UInt8) (h : l[k]? = some c) : ((l.take k).map f ++ l.drop k).set k (f c) = (l.take (k + 1)).map f ++ l.drop (k + 1) := by
  obtain ⟨hk, hc⟩ := List.getElem?_eq_some_iff.1 h
  rw [List.set_append_right _ _ (by simp; omega), List.take_add_one, h]
  have e : l.drop k = c :: l.drop (k + 1) := by rw [List.drop_eq_getElem_cons hk, hc]
  rw [e]
  have e2 : k - ((l.take k).map f).length = 0 := by simp; omega
  rw [e2]
  simp
theorem map_at (f : UInt8 → UInt8) (l : List UInt8) (k : Nat) (h : k < l.length) : ((l.take k).map f ++ l.drop k)[k]? = l[k]? := by
  rw [List.getElem?_append_right (by simp; omega), List.getElem?_drop]
  congr 1
  simp; omega

set_option maxHeartbeats 1000000 in
set_option maxRecDepth 100000 in
theorem turned_any (g : Nat) (eg : ∀ args w, (callFunc g args).run Tryz.prog w = .ok (.enter g args) w) (f : UInt8 → UInt8) (hf : MapB Tryz.prog g #[] f) (s : ByteArray) (w : World) (hs : s.size ≤ 9223372036854775807) :
    Calls Tryz.prog 225 #[.string s, .func (.func g) #[] #[]] w fun e w' => e = .returned (.string ⟨(s.data.toList.map f).toArray⟩) ∧ Below w.heap.size w w' := by
  obtain ⟨cap, W1, hcv, hrow, hbel, hlt, hcap⟩ := conv_bytes w s
  have HF := hide hf
  clear hf
  have HR := hide hrow; have HB := hide hbel; clear hrow hbel
  go_enter Tryz.func225, Tryz.ntmps225
  go_wp2
  clear hcv
  go_loopw [12] (fun i wr => ∃ k : Nat, i = .int .i64 (k : Int) ∧ k ≤ s.size ∧ ByteRow wr w.heap.size ((s.data.toList.take k).map f ++ s.data.toList.drop k) ∧ Below w.heap.size w wr) (fun i _ => s.size - (intOf i).toNat)
  case atStart => exact ⟨0, rfl, Nat.zero_le _, by simpa using HR.out, HB.out⟩
  case round =>
    obtain ⟨k, rfl, hk, hrow, hbel⟩ := hrel
    by_cases hlt2 : k < s.size
    · obtain ⟨c, hc⟩ : ∃ c, s.data.toList[k]? = some c := ⟨_, List.getElem?_eq_getElem (by rw [size_list]; exact hlt2)⟩
      have hkl : k < s.data.toList.length := by rw [size_list]; exact hlt2
      have hcell := hrow.cell ((map_at f _ k hkl).trans hc)
      have hfree := hrow.free (j := k) (by simp; omega)
      have HN := hide (hrow.set (j := k) (by simp; omega) (f c))
      have HB2 := hide (hbel.setCell (p := ⟨w.heap.size, k, none⟩) (Nat.le_refl _) (.int .u8 ((f c).toNat : Int)))
      have HC := hide hc
      clear hrow hbel hc
      go_wp2_with (go_at_fn g; refine (HF.out _ c).mono ?_; rintro e w1 ⟨rfl, rfl⟩)
      go_roundw
      case rel => exact ⟨k + 1, by go_num, by omega, by rw [← map_step f _ k c HC.out]; exact HN.out, HB2.out⟩
      case measure => simp [intOf]; omega
    · have hk2 : k = s.size := by omega
      have hr := hrow
      rw [List.drop_of_length_le (by rw [size_list]; omega), List.take_of_length_le (by rw [size_list]; omega), List.append_nil] at hr
      have hrd := hr.reads
      rw [List.length_map, size_list] at hrd
      have hcv := conv_str 119 9 5 Tryz.underlying119 Tryz.underlying5 Tryz.underlying9 (c := cap) hrd
      have HB2 := hide hbel
      clear hrow hbel hk2 hr hrd
      go_wp2
      go_ret
      exact ⟨rfl, HB2.out⟩

theorem lower_any (s : ByteArray) (w : World) (hs : s.size ≤ 9223372036854775807) :
    Calls Tryz.prog 225 #[.string s, .func (.func 227) #[] #[]] w fun e w' => e = .returned (.string ⟨(s.data.toList.map smallB).toArray⟩) ∧ Below w.heap.size w w' :=
  turned_any _ (enters_of Tryz.func227 (by kernel_rfl) rfl) smallB (fun W x => small_any x W) s w hs
theorem great_all (s : ByteArray) (w : World) (hs : s.size ≤ 9223372036854775807) :
    Calls Tryz.prog 225 #[.string s, .func (.func 226) #[] #[]] w fun e w' => e = .returned (.string ⟨(s.data.toList.map greatB).toArray⟩) ∧ Below w.heap.size w w' :=
  turned_any _ (enters_of Tryz.func226 (by kernel_rfl) rfl) greatB (fun W x => great_any x W) s w hs
set_option maxHeartbeats 400000 in
theorem upper_any (s : ByteArray) (w : World) (hs : s.size ≤ 9223372036854775807) :
    Calls Tryz.prog 201 #[.string s] w fun e w' => e = .returned (.string ⟨(s.data.toList.map greatB).toArray⟩) ∧ Below w.heap.size w w' := by
  have hc := hide (great_all s w hs)
  go_enter Tryz.func201, Tryz.ntmps201
  go_wp2_with (go_at_call 225; refine (Hid.out hc).mono ?_; rintro e w1 ⟨rfl, hb⟩)
  go_ret
  exact ⟨rfl, hb⟩
end Go.Proofs.YtnepogddjinpoaaGreatDoor
