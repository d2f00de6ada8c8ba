/-
  A ROOM OF OCTETS: zeros, then what has been written.
-/
import Derived.Test.YtdnmgpidfjkiaaaDoorProg
import Derived.Test.YtdnmgpidfjkiaaaDoorM1
import Derived.WalkKit
import Derived.WalkSpells
import Derived.WalkLawsBesides
import Derived.Lib.SlBuf
namespace Go.Proofs.YtdnmgpidfjkiaaaDoor
open Go.RowKit
set_option linter.unusedVariables false

/-- The room of 20 octets: zeros, then what has been written. -/
def room (p : Nat) (lo : List UInt8) : Array Value := (List.replicate p (Value.int .u8 0) ++ bv lo).toArray
theorem room_at (p : Nat) (lo : List UInt8) (h : 1 ≤ p) : (room p lo)[p - 1]? = some (.int .u8 0) := by
  unfold room
  rw [List.getElem?_toArray, List.getElem?_append_left (by simp; omega), List.getElem?_replicate, if_pos (by omega)]
theorem room_set (p : Nat) (lo : List UInt8) (h : 1 ≤ p) (c : UInt8) : (room p lo).setIfInBounds (p - 1) (.int .u8 (c.toNat : Int)) = room (p - 1) (c :: lo) := by
  unfold room
  rw [List.setIfInBounds_toArray]
  congr 1
  obtain ⟨m, rfl⟩ : ∃ m, p = m + 1 := ⟨p - 1, by omega⟩
  rw [List.replicate_succ', Nat.add_sub_cancel, List.append_assoc, List.set_append_right _ _ (by simp)]
  simp [bv]
theorem room_reads {w : World} {g : Nat} {t : TypeId} {p n : Nat} {lo : List UInt8} (h : Blk w g t (room p lo)) (hl : lo.length = n) : Reads w w.heap.size 1 (some ⟨g, p, none⟩) n (bv lo) := by
  refine ⟨by rw [bv_length]; omega, fun hn => ⟨_, rfl, h.lt, fun j u hu => ?_⟩⟩
  have hadd : (⟨g, p, none⟩ : Addr).add j = ⟨g, p + j, none⟩ := by unfold Addr.add; split <;> simp_all
  rw [hadd, h.cell]
  unfold room
  rw [List.getElem?_toArray, List.getElem?_append_right (by simp)]
  simpa using hu
end Go.Proofs.YtdnmgpidfjkiaaaDoor
