/-
  percent: coded, Decode.
-/
import Derived.Test.YtdnmgpidfjkiaaaDoorM1
import Derived.Test.YtdnmgpidfjkiaaaDoorUnhexP
import Derived.Test.YtdnmgpidfjkiaaaDoorBuildT
import Derived.Lib.TrimByte
namespace Go.Proofs.YtdnmgpidfjkiaaaDoor
open Go.RowKit
set_option linter.unusedVariables false
set_option linter.unusedSimpArgs false

theorem drop_consD (l : List UInt8) (k : Nat) (h : k < l.length) : l.drop k = l[k] :: l.drop (k + 1) := List.drop_eq_getElem_cons h
theorem unhexL_any (l : List UInt8) (w : World) (hl : l.length ≤ 1000000000) :
    Calls Tryd.prog 125 #[.string ⟨l.toArray⟩] w fun e w' => e = .returned (.tuple #[.int .i64 (pUnhex l).1, .int .i64 (pUnhex l).2]) ∧ Below w.heap.size w w' :=
  unhex_any ⟨l.toArray⟩ w (by rw [mk_size]; omega)
theorem two_of (l : List UInt8) (k : Nat) (h : k + 2 < l.length) : ∃ a b, (l.drop (k + 1)).take 2 = [a, b] ∧ ∀ c, codedB (c :: l.drop (k + 1)) = (c == 37 && (hexB a && hexB b)) ∧ hexOf (l.drop (k + 1)) = hexOf [a, b] := by
  refine ⟨l[k + 1], l[k + 1 + 1], ?_, fun c => ⟨?_, ?_⟩⟩
  all_goals rw [drop_consD l (k + 1) (by omega), drop_consD l (k + 1 + 1) (by omega)]
  all_goals rfl
theorem cut_two (l : List UInt8) (k : Nat) (h : k + 3 ≤ l.length) : (⟨l.toArray⟩ : ByteArray).extract (k + 1) (k + 3) = ⟨((l.drop (k + 1)).take 2).toArray⟩ := by
  rw [Lib.extract_mk]
  rw [show k + 3 - (k + 1) = 2 by omega]
end Go.Proofs.YtdnmgpidfjkiaaaDoor
