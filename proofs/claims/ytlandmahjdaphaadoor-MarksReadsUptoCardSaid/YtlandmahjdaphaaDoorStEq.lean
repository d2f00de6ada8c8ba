/-
  Two states, as the program compares them.
-/
import Derived.Test.YtlandmahjdaphaaDoorProg
import Derived.Laws.StructEq
import Derived.KernelRfl
import Derived.Tactics2
import Derived.Calls
import Derived.Test.YtlandmahjdaphaaDoorDec
namespace Go.Proofs.YtlandmahjdaphaaDoor
open Go.RowKit
set_option linter.unusedVariables false
set_option linter.unusedSimpArgs false

def sameV (k : Int) (el at_ : ByteArray) (d : Int) (pe re : ByteArray) (pa : Int) (wo : ByteArray) (k2 : Int) (el2 at2 : ByteArray) (d2 : Int) (pe2 re2 : ByteArray) (pa2 : Int) (wo2 : ByteArray) : Bool :=
  (k == k2) && ((el.toList == el2.toList) && ((at_.toList == at2.toList) && ((d == d2) && ((pe.toList == pe2.toList) && ((re.toList == re2.toList) && ((pa == pa2) && (wo.toList == wo2.toList)))))))
@[go_sem high] theorem eqState (k : Int) (el at_ : ByteArray) (d : Int) (pe re : ByteArray) (pa : Int) (wo : ByteArray) (k2 : Int) (el2 at2 : ByteArray) (d2 : Int) (pe2 re2 : ByteArray) (pa2 : Int) (wo2 : ByteArray) (w : World) :
    (Op.equalIn 10000 29 (.agg #[.int .i64 k, .string el, .string at_, .int .u8 d, .string pe, .string re, .int .i64 pa, .string wo]) (.agg #[.int .i64 k2, .string el2, .string at2, .int .u8 d2, .string pe2, .string re2, .int .i64 pa2, .string wo2])).run Tryd.prog w
      = .ok (sameV k el at_ d pe re pa wo k2 el2 at2 d2 pe2 re2 pa2 wo2) w := by
  have hS : Tryd.prog.underlying 29 = some (.struct (Tryd.prog.fieldsOf 29)) := by kernel_rfl
  have hp : Tryd.prog.stoodInHeld 29 = false := by kernel_rfl
  rw [show (10000 : Nat) = 9999 + 1 from rfl, run_equalIn_agg w 9999 29 _ _ hS hp]
  unfold sameV
  simp only [Program.fieldsOf, Tryd.underlying29]
  go_simp
  by_cases h0 : k = k2
  rotate_left
  · simp [h0]
  by_cases h1 : el.toList = el2.toList
  rotate_left
  · simp [h0, h1]
  by_cases h2 : at_.toList = at2.toList
  rotate_left
  · simp [h0, h1, h2]
  by_cases h3 : d = d2
  rotate_left
  · simp [h0, h1, h2, h3]
  by_cases h4 : pe.toList = pe2.toList
  rotate_left
  · simp [h0, h1, h2, h3, h4]
  by_cases h5 : re.toList = re2.toList
  rotate_left
  · simp [h0, h1, h2, h3, h4, h5]
  by_cases h6 : pa = pa2
  rotate_left
  · simp [h0, h1, h2, h3, h4, h5, h6]
  by_cases h7 : wo.toList = wo2.toList
  rotate_left
  · simp [h0, h1, h2, h3, h4, h5, h6, h7]
  simp [h0, h1, h2, h3, h4, h5, h6, h7]
end Go.Proofs.YtlandmahjdaphaaDoor
