/-
  NARROWER THAN 'FOR EVERY INPUT', by the rows' own cells (each row's printed sentence says how): EvalWith: loops · ValuesOwn: loops · FuncsMay: loops.
  DERIVED. THE GIVEN ROWS OF THIS SEAT. 3 by the template 'for every input the law returns true; each argument reads behind the call as it read before'; 0 by the template 'total and deterministic' (their statements: YtdnmgpidfjkiaaaTotals.lean).
  GIVEN WITH THE SEED: the statements are not yours to turn. If you find one false, say at which input.
  Laid BY PROGRAM, IN A SANDBOX (cutbox-rows.mjs): the forced cells as the released guide's own fill.sh prints them over the translation d22bac3184224260… (all of the seat's roots in one cut). By AI agents, Wed Nov 11 2026. No macro, syntax, notation, axiom, sorry.
-/
import Derived.Test.YtdnmgpidfjkiaaaChecked
import GoSem.Claim
import GoSem.ClaimJoined
import GoSem.ClaimMapViews
import Derived.JoinedTies
import Derived.KernelRfl
namespace Go.Proofs.Ytdnmgpidfjkiaaa
/- THE CELL 'sum', in the pinned program and in every row, IS THE sha256 OF THE DUMP (.gsa) THAT YtdnmgpidfjkiaaaProg.lean LOADS. Nothing in Lean hashes anything: it is a label: what it is worth is what the hold of that sum in a sandbox is worth. -/
noncomputable def Try.pinned : Pinned := { name := "ytdnmgpidfjkiaaa", sum := "d22bac3184224260ddd934ba301c801ed21486331290da4b990ecb77b8a982a3", checked := Try.checked }
namespace Rows
def none {H : Type} : Left H := { results := [], args := [] }

/-- 'muslinlaw27.EvalWith': WHATEVER THE INPUT: true; the input reads as it did. -/
def evalWithSpec : ChangeSpec := { name := "evalWith", fn := fun _ => fun
  | [d1, d2, d3, d4] => { results := [.lit (.bool true)], args := [d1, d2, d3, d4] }
  | _ => none }
def evalWithRow : OpenClaim := { program := "ytdnmgpidfjkiaaa", sum := "d22bac3184224260ddd934ba301c801ed21486331290da4b990ecb77b8a982a3", func := "muslin/muslinlaw27.EvalWith", spec := "evalWith", unfollowed := true, recurses := true, loops := true, apart := false }
def EvalWithSaid : Prop := evalWithRow.holds Try.pinned (OpenSpec.ofChange evalWithSpec)

/-- ITS FALSE NEIGHBOUR: 'it returns false'. Refute it at one input. -/
def evalWithWrong : ChangeSpec := { name := "evalWith", fn := fun _ => fun
  | [d1, d2, d3, d4] => { results := [.lit (.bool false)], args := [d1, d2, d3, d4] }
  | _ => none }
def EvalWithWrongFalsely : Prop := evalWithRow.holds Try.pinned (OpenSpec.ofChange evalWithWrong)

/-- 'muslinlaw04.ValuesOwn': WHATEVER THE INPUT: true; the input reads as it did. -/
def valuesOwnSpec : ChangeSpec := { name := "valuesOwn", fn := fun _ => fun
  | [d1, d2, d3] => { results := [.lit (.bool true)], args := [d1, d2, d3] }
  | _ => none }
def valuesOwnRow : OpenClaim := { program := "ytdnmgpidfjkiaaa", sum := "d22bac3184224260ddd934ba301c801ed21486331290da4b990ecb77b8a982a3", func := "muslin/muslinlaw04.ValuesOwn", spec := "valuesOwn", inPlace := ["internal/abi.NoEscape"], unfollowed := true, recurses := true, loops := true, apart := false }
def ValuesOwnSaid : Prop := valuesOwnRow.holds Try.pinned (OpenSpec.ofChange valuesOwnSpec)

/-- ITS FALSE NEIGHBOUR: 'it returns false'. Refute it at one input. -/
def valuesOwnWrong : ChangeSpec := { name := "valuesOwn", fn := fun _ => fun
  | [d1, d2, d3] => { results := [.lit (.bool false)], args := [d1, d2, d3] }
  | _ => none }
def ValuesOwnWrongFalsely : Prop := valuesOwnRow.holds Try.pinned (OpenSpec.ofChange valuesOwnWrong)

/-- 'muslinlaw26.FuncsMay': WHATEVER THE INPUT: true; the input reads as it did. -/
def funcsMaySpec : ChangeSpec := { name := "funcsMay", fn := fun _ => fun
  | [d1, d2] => { results := [.lit (.bool true)], args := [d1, d2] }
  | _ => none }
def funcsMayRow : OpenClaim := { program := "ytdnmgpidfjkiaaa", sum := "d22bac3184224260ddd934ba301c801ed21486331290da4b990ecb77b8a982a3", func := "muslin/muslinlaw26.FuncsMay", spec := "funcsMay", inPlace := ["internal/abi.NoEscape", "internal/bytealg.MakeNoZero"], unfollowed := true, recurses := true, loops := true, apart := false }
def FuncsMaySaid : Prop := funcsMayRow.holds Try.pinned (OpenSpec.ofChange funcsMaySpec)

/-- ITS FALSE NEIGHBOUR: 'it returns false'. Refute it at one input. -/
def funcsMayWrong : ChangeSpec := { name := "funcsMay", fn := fun _ => fun
  | [d1, d2] => { results := [.lit (.bool false)], args := [d1, d2] }
  | _ => none }
def FuncsMayWrongFalsely : Prop := funcsMayRow.holds Try.pinned (OpenSpec.ofChange funcsMayWrong)

/- THE SECOND FORM. 'bulk': how many values and letters a reading holds, each counted each time it is reached (what is shared counts as often as it is met; a slice's spare places count too). A statement '..UptoSaid' is the law's where the arguments, and the package variables that the reading takes, are together of bulk at most 1048576: NARROWER than '..Said'. Prove '..Said' where nothing that the law and all that it calls make is longer than what came in: it says more and counts as full. Else prove '..UptoSaid'. A law counts once. -/
mutual
def uptoBulk {H : Type} : DataW H → Nat
  | .lit (.string bytes) => bytes.length + 1
  | .lit _ => 1
  | .nil => 1
  | .ptr d => uptoBulk d + 1
  | .slice elems spare => uptoBulkAll elems + uptoBulkAll spare + 1
  | .agg parts => uptoBulkAll parts + 1
  | .iface _ d => uptoBulk d + 1
  | .map entries => uptoBulkEntries entries + 1
  | .held _ => 1
def uptoBulkAll {H : Type} : List (DataW H) → Nat
  | [] => 0
  | d :: r => uptoBulk d + uptoBulkAll r
def uptoBulkEntries {H : Type} : List (Lit × DataW H) → Nat
  | [] => 0
  | x :: r => uptoBulkEntry x + uptoBulkEntries r
def uptoBulkEntry {H : Type} : Lit × DataW H → Nat
  | (.string bytes, d) => bytes.length + uptoBulk d + 1
  | (_, d) => uptoBulk d + 1
 end
def uptoSmall : (H : Type) → List (DataW H) → Bool := fun _ ds => decide (uptoBulkAll ds ≤ 1048576)
def OpenSpec.upto (s : _root_.Go.ChangeSpec) : _root_.Go.OpenSpec := { _root_.Go.OpenSpec.ofChange s with cond := some uptoSmall }

/-- 'muslinlaw27.EvalWith', WHERE WHAT IT READS IS OF BULK AT MOST 1048576: true; the input reads as it did. -/
def evalWithUptoRow : OpenClaim := { program := "ytdnmgpidfjkiaaa", sum := "d22bac3184224260ddd934ba301c801ed21486331290da4b990ecb77b8a982a3", func := "muslin/muslinlaw27.EvalWith", spec := "evalWith", unfollowed := true, recurses := true, loops := true, apart := false, narrowed := true }
def EvalWithUptoSaid : Prop := evalWithUptoRow.holds Try.pinned (OpenSpec.upto evalWithSpec)

/-- 'muslinlaw04.ValuesOwn', WHERE WHAT IT READS IS OF BULK AT MOST 1048576: true; the input reads as it did. -/
def valuesOwnUptoRow : OpenClaim := { program := "ytdnmgpidfjkiaaa", sum := "d22bac3184224260ddd934ba301c801ed21486331290da4b990ecb77b8a982a3", func := "muslin/muslinlaw04.ValuesOwn", spec := "valuesOwn", inPlace := ["internal/abi.NoEscape"], unfollowed := true, recurses := true, loops := true, apart := false, narrowed := true }
def ValuesOwnUptoSaid : Prop := valuesOwnUptoRow.holds Try.pinned (OpenSpec.upto valuesOwnSpec)

/-- 'muslinlaw26.FuncsMay', WHERE WHAT IT READS IS OF BULK AT MOST 1048576: true; the input reads as it did. -/
def funcsMayUptoRow : OpenClaim := { program := "ytdnmgpidfjkiaaa", sum := "d22bac3184224260ddd934ba301c801ed21486331290da4b990ecb77b8a982a3", func := "muslin/muslinlaw26.FuncsMay", spec := "funcsMay", inPlace := ["internal/abi.NoEscape", "internal/bytealg.MakeNoZero"], unfollowed := true, recurses := true, loops := true, apart := false, narrowed := true }
def FuncsMayUptoSaid : Prop := funcsMayUptoRow.holds Try.pinned (OpenSpec.upto funcsMaySpec)

end Rows
end Go.Proofs.Ytdnmgpidfjkiaaa
