/-
  What the walks read of strings.Index's variable; texts as lists of octets.
-/
import Derived.Test.YtdnmgpidfjkiaaaDoorLexD
namespace Go.Proofs.YtdnmgpidfjkiaaaDoor
set_option linter.unusedVariables false

/-- The variable that strings.Index asks for. -/
structure LenW (w : World) : Prop where
  len : ∃ m, w.cell? ⟨0, 0, none⟩ = some (.int .i64 m)
  lt : 0 < w.heap.size
theorem ba_list (a : ByteArray) : ∃ s : List UInt8, a = ⟨s.toArray⟩ := ⟨a.data.toList, by cases a; simp⟩
theorem ext_eq (s : List UInt8) (a t : Nat) : (⟨s.toArray⟩ : ByteArray).extract a t = ⟨((s.take t).drop a).toArray⟩ := by
  apply ByteArray.ext
  apply Array.toList_inj.1
  rw [← Lib.toList_data, Lib.extract_toList, List.drop_take]
end Go.Proofs.YtdnmgpidfjkiaaaDoor
