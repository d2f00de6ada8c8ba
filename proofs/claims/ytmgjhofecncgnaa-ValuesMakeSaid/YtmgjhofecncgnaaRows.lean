/-
  NARROWER THAN 'FOR EVERY INPUT', by the rows' own cells (each row's printed sentence says how): EvalWith: loops.
  DERIVED. THE GIVEN ROWS OF THIS SEAT. 8 by the template 'for every input the law returns true; each argument reads behind the call as it read before'; 0 by the template 'total and deterministic' (their statements: YtmgjhofecncgnaaTotals.lean).
  GIVEN WITH THE SEED: the statements are not yours to turn. If you find one false, say at which input.
  Laid BY PROGRAM, IN A SANDBOX (cutbox-rows.mjs): the forced cells as the released guide's own fill.sh prints them over the translation 3d9443de409605c9… (all of the seat's roots in one cut). By AI agents, Wed Nov 11 2026. No macro, syntax, notation, axiom, sorry.
-/
import Derived.Test.YtmgjhofecncgnaaChecked
import GoSem.Claim
import GoSem.ClaimJoined
import GoSem.ClaimMapViews
import Derived.JoinedTies
import Derived.KernelRfl
namespace Go.Proofs.Ytmgjhofecncgnaa
/- THE CELL 'sum', in the pinned program and in every row, IS THE sha256 OF THE DUMP (.gsa) THAT YtmgjhofecncgnaaProg.lean LOADS. Nothing in Lean hashes anything: it is a label: what it is worth is what the hold of that sum in a sandbox is worth. -/
noncomputable def Try.pinned : Pinned := { name := "ytmgjhofecncgnaa", sum := "3d9443de409605c9ef1b0811a19abdce3a14079375c33de9d9a679de147400e2", checked := Try.checked }
namespace Rows
def none {H : Type} : Left H := { results := [], args := [] }

/-- 'muslinlaw03.NumberSums': WHATEVER THE INPUT: true; the input reads as it did. -/
def numberSumsSpec : ChangeSpec := { name := "numberSums", fn := fun _ => fun
  | [d1, d2] => { results := [.lit (.bool true)], args := [d1, d2] }
  | _ => none }
def numberSumsRow : OpenClaim := { program := "ytmgjhofecncgnaa", sum := "3d9443de409605c9ef1b0811a19abdce3a14079375c33de9d9a679de147400e2", func := "muslin/muslinlaw03.NumberSums", spec := "numberSums", apart := false }
def NumberSumsSaid : Prop := numberSumsRow.holds Try.pinned (OpenSpec.ofChange numberSumsSpec)

/-- ITS FALSE NEIGHBOUR: 'it returns false'. Refute it at one input. -/
def numberSumsWrong : ChangeSpec := { name := "numberSums", fn := fun _ => fun
  | [d1, d2] => { results := [.lit (.bool false)], args := [d1, d2] }
  | _ => none }
def NumberSumsWrongFalsely : Prop := numberSumsRow.holds Try.pinned (OpenSpec.ofChange numberSumsWrong)

/-- 'muslinlaw01.OctetsHex': WHATEVER THE INPUT: true; the input reads as it did. -/
def octetsHexSpec : ChangeSpec := { name := "octetsHex", fn := fun _ => fun
  | [d1, d2, d3] => { results := [.lit (.bool true)], args := [d1, d2, d3] }
  | _ => none }
def octetsHexRow : OpenClaim := { program := "ytmgjhofecncgnaa", sum := "3d9443de409605c9ef1b0811a19abdce3a14079375c33de9d9a679de147400e2", func := "muslin/muslinlaw01.OctetsHex", spec := "octetsHex", inPlace := ["internal/bytealg.IndexByteString"], unfollowed := true, recurses := true, apart := false }
def OctetsHexSaid : Prop := octetsHexRow.holds Try.pinned (OpenSpec.ofChange octetsHexSpec)

/-- ITS FALSE NEIGHBOUR: 'it returns false'. Refute it at one input. -/
def octetsHexWrong : ChangeSpec := { name := "octetsHex", fn := fun _ => fun
  | [d1, d2, d3] => { results := [.lit (.bool false)], args := [d1, d2, d3] }
  | _ => none }
def OctetsHexWrongFalsely : Prop := octetsHexRow.holds Try.pinned (OpenSpec.ofChange octetsHexWrong)

/-- 'muslinlaw03.NumberBack': WHATEVER THE INPUT: true; the input reads as it did. -/
def numberBackSpec : ChangeSpec := { name := "numberBack", fn := fun _ => fun
  | [d1, d2] => { results := [.lit (.bool true)], args := [d1, d2] }
  | _ => none }
def numberBackRow : OpenClaim := { program := "ytmgjhofecncgnaa", sum := "3d9443de409605c9ef1b0811a19abdce3a14079375c33de9d9a679de147400e2", func := "muslin/muslinlaw03.NumberBack", spec := "numberBack", unfollowed := true, recurses := true, apart := false }
def NumberBackSaid : Prop := numberBackRow.holds Try.pinned (OpenSpec.ofChange numberBackSpec)

/-- ITS FALSE NEIGHBOUR: 'it returns false'. Refute it at one input. -/
def numberBackWrong : ChangeSpec := { name := "numberBack", fn := fun _ => fun
  | [d1, d2] => { results := [.lit (.bool false)], args := [d1, d2] }
  | _ => none }
def NumberBackWrongFalsely : Prop := numberBackRow.holds Try.pinned (OpenSpec.ofChange numberBackWrong)

/-- 'muslinlaw01.OctetsBack': WHATEVER THE INPUT: true; the input reads as it did. -/
def octetsBackSpec : ChangeSpec := { name := "octetsBack", fn := fun _ => fun
  | [d] => { results := [.lit (.bool true)], args := [d] }
  | _ => none }
def octetsBackRow : OpenClaim := { program := "ytmgjhofecncgnaa", sum := "3d9443de409605c9ef1b0811a19abdce3a14079375c33de9d9a679de147400e2", func := "muslin/muslinlaw01.OctetsBack", spec := "octetsBack", inPlace := ["internal/bytealg.IndexByteString"], unfollowed := true, recurses := true, apart := false }
def OctetsBackSaid : Prop := octetsBackRow.holds Try.pinned (OpenSpec.ofChange octetsBackSpec)

/-- ITS FALSE NEIGHBOUR: 'it returns false'. Refute it at one input. -/
def octetsBackWrong : ChangeSpec := { name := "octetsBack", fn := fun _ => fun
  | [d] => { results := [.lit (.bool false)], args := [d] }
  | _ => none }
def OctetsBackWrongFalsely : Prop := octetsBackRow.holds Try.pinned (OpenSpec.ofChange octetsBackWrong)

/-- 'muslinlaw03.NumberTells': WHATEVER THE INPUT: true; the input reads as it did. -/
def numberTellsSpec : ChangeSpec := { name := "numberTells", fn := fun _ => fun
  | [d1, d2, d3, d4] => { results := [.lit (.bool true)], args := [d1, d2, d3, d4] }
  | _ => none }
def numberTellsRow : OpenClaim := { program := "ytmgjhofecncgnaa", sum := "3d9443de409605c9ef1b0811a19abdce3a14079375c33de9d9a679de147400e2", func := "muslin/muslinlaw03.NumberTells", spec := "numberTells", unfollowed := true, recurses := true, apart := false }
def NumberTellsSaid : Prop := numberTellsRow.holds Try.pinned (OpenSpec.ofChange numberTellsSpec)

/-- ITS FALSE NEIGHBOUR: 'it returns false'. Refute it at one input. -/
def numberTellsWrong : ChangeSpec := { name := "numberTells", fn := fun _ => fun
  | [d1, d2, d3, d4] => { results := [.lit (.bool false)], args := [d1, d2, d3, d4] }
  | _ => none }
def NumberTellsWrongFalsely : Prop := numberTellsRow.holds Try.pinned (OpenSpec.ofChange numberTellsWrong)

/-- 'muslinlaw24.JoinOrder': WHATEVER THE INPUT: true; the input reads as it did. -/
def joinOrderSpec : ChangeSpec := { name := "joinOrder", fn := fun _ => fun
  | [d1, d2, d3] => { results := [.lit (.bool true)], args := [d1, d2, d3] }
  | _ => none }
def joinOrderRow : OpenClaim := { program := "ytmgjhofecncgnaa", sum := "3d9443de409605c9ef1b0811a19abdce3a14079375c33de9d9a679de147400e2", func := "muslin/muslinlaw24.JoinOrder", spec := "joinOrder", unfollowed := true, recurses := true, apart := false }
def JoinOrderSaid : Prop := joinOrderRow.holds Try.pinned (OpenSpec.ofChange joinOrderSpec)

/-- ITS FALSE NEIGHBOUR: 'it returns false'. Refute it at one input. -/
def joinOrderWrong : ChangeSpec := { name := "joinOrder", fn := fun _ => fun
  | [d1, d2, d3] => { results := [.lit (.bool false)], args := [d1, d2, d3] }
  | _ => none }
def JoinOrderWrongFalsely : Prop := joinOrderRow.holds Try.pinned (OpenSpec.ofChange joinOrderWrong)

/-- 'muslinlaw27.EvalWith': WHATEVER THE INPUT: true; the input reads as it did. -/
def evalWithSpec : ChangeSpec := { name := "evalWith", fn := fun _ => fun
  | [d1, d2, d3, d4] => { results := [.lit (.bool true)], args := [d1, d2, d3, d4] }
  | _ => none }
def evalWithRow : OpenClaim := { program := "ytmgjhofecncgnaa", sum := "3d9443de409605c9ef1b0811a19abdce3a14079375c33de9d9a679de147400e2", func := "muslin/muslinlaw27.EvalWith", spec := "evalWith", unfollowed := true, recurses := true, loops := true, apart := false }
def EvalWithSaid : Prop := evalWithRow.holds Try.pinned (OpenSpec.ofChange evalWithSpec)

/-- ITS FALSE NEIGHBOUR: 'it returns false'. Refute it at one input. -/
def evalWithWrong : ChangeSpec := { name := "evalWith", fn := fun _ => fun
  | [d1, d2, d3, d4] => { results := [.lit (.bool false)], args := [d1, d2, d3, d4] }
  | _ => none }
def EvalWithWrongFalsely : Prop := evalWithRow.holds Try.pinned (OpenSpec.ofChange evalWithWrong)

/-- 'muslinlaw04.ValuesMake': WHATEVER THE INPUT: true; the input reads as it did. -/
def valuesMakeSpec : ChangeSpec := { name := "valuesMake", fn := fun _ => fun
  | [d1, d2] => { results := [.lit (.bool true)], args := [d1, d2] }
  | _ => none }
def valuesMakeRow : OpenClaim := { program := "ytmgjhofecncgnaa", sum := "3d9443de409605c9ef1b0811a19abdce3a14079375c33de9d9a679de147400e2", func := "muslin/muslinlaw04.ValuesMake", spec := "valuesMake", inPlace := ["internal/abi.NoEscape"], unfollowed := true, recurses := true, apart := false }
def ValuesMakeSaid : Prop := valuesMakeRow.holds Try.pinned (OpenSpec.ofChange valuesMakeSpec)

/-- ITS FALSE NEIGHBOUR: 'it returns false'. Refute it at one input. -/
def valuesMakeWrong : ChangeSpec := { name := "valuesMake", fn := fun _ => fun
  | [d1, d2] => { results := [.lit (.bool false)], args := [d1, d2] }
  | _ => none }
def ValuesMakeWrongFalsely : Prop := valuesMakeRow.holds Try.pinned (OpenSpec.ofChange valuesMakeWrong)

/- THE SECOND FORM. 'bulk': how many values and letters a reading holds, each counted each time it is reached (what is shared counts as often as it is met; a slice's spare places count too). A statement '..UptoSaid' is the law's where the arguments, and the package variables that the reading takes, are together of bulk at most 1048576: NARROWER than '..Said'. Prove '..Said' where nothing that the law and all that it calls make is longer than what came in: it says more and counts as full. Else prove '..UptoSaid'. A law counts once. -/
mutual
def uptoBulk {H : Type} : DataW H → Nat
  | .lit (.string bytes) => bytes.length + 1
  | .lit _ => 1
  | .nil => 1
  | .ptr d => uptoBulk d + 1
  | .slice elems spare => uptoBulkAll elems + uptoBulkAll spare + 1
  | .agg parts => uptoBulkAll parts + 1
  | .iface _ d => uptoBulk d + 1
  | .map entries => uptoBulkEntries entries + 1
  | .held _ => 1
def uptoBulkAll {H : Type} : List (DataW H) → Nat
  | [] => 0
  | d :: r => uptoBulk d + uptoBulkAll r
def uptoBulkEntries {H : Type} : List (Lit × DataW H) → Nat
  | [] => 0
  | x :: r => uptoBulkEntry x + uptoBulkEntries r
def uptoBulkEntry {H : Type} : Lit × DataW H → Nat
  | (.string bytes, d) => bytes.length + uptoBulk d + 1
  | (_, d) => uptoBulk d + 1
 end
def uptoSmall : (H : Type) → List (DataW H) → Bool := fun _ ds => decide (uptoBulkAll ds ≤ 1048576)
def OpenSpec.upto (s : _root_.Go.ChangeSpec) : _root_.Go.OpenSpec := { _root_.Go.OpenSpec.ofChange s with cond := some uptoSmall }

/-- 'muslinlaw03.NumberSums', WHERE WHAT IT READS IS OF BULK AT MOST 1048576: true; the input reads as it did. -/
def numberSumsUptoRow : OpenClaim := { program := "ytmgjhofecncgnaa", sum := "3d9443de409605c9ef1b0811a19abdce3a14079375c33de9d9a679de147400e2", func := "muslin/muslinlaw03.NumberSums", spec := "numberSums", apart := false, narrowed := true }
def NumberSumsUptoSaid : Prop := numberSumsUptoRow.holds Try.pinned (OpenSpec.upto numberSumsSpec)

/-- 'muslinlaw01.OctetsHex', WHERE WHAT IT READS IS OF BULK AT MOST 1048576: true; the input reads as it did. -/
def octetsHexUptoRow : OpenClaim := { program := "ytmgjhofecncgnaa", sum := "3d9443de409605c9ef1b0811a19abdce3a14079375c33de9d9a679de147400e2", func := "muslin/muslinlaw01.OctetsHex", spec := "octetsHex", inPlace := ["internal/bytealg.IndexByteString"], unfollowed := true, recurses := true, apart := false, narrowed := true }
def OctetsHexUptoSaid : Prop := octetsHexUptoRow.holds Try.pinned (OpenSpec.upto octetsHexSpec)

/-- 'muslinlaw03.NumberBack', WHERE WHAT IT READS IS OF BULK AT MOST 1048576: true; the input reads as it did. -/
def numberBackUptoRow : OpenClaim := { program := "ytmgjhofecncgnaa", sum := "3d9443de409605c9ef1b0811a19abdce3a14079375c33de9d9a679de147400e2", func := "muslin/muslinlaw03.NumberBack", spec := "numberBack", unfollowed := true, recurses := true, apart := false, narrowed := true }
def NumberBackUptoSaid : Prop := numberBackUptoRow.holds Try.pinned (OpenSpec.upto numberBackSpec)

/-- 'muslinlaw01.OctetsBack', WHERE WHAT IT READS IS OF BULK AT MOST 1048576: true; the input reads as it did. -/
def octetsBackUptoRow : OpenClaim := { program := "ytmgjhofecncgnaa", sum := "3d9443de409605c9ef1b0811a19abdce3a14079375c33de9d9a679de147400e2", func := "muslin/muslinlaw01.OctetsBack", spec := "octetsBack", inPlace := ["internal/bytealg.IndexByteString"], unfollowed := true, recurses := true, apart := false, narrowed := true }
def OctetsBackUptoSaid : Prop := octetsBackUptoRow.holds Try.pinned (OpenSpec.upto octetsBackSpec)

/-- 'muslinlaw03.NumberTells', WHERE WHAT IT READS IS OF BULK AT MOST 1048576: true; the input reads as it did. -/
def numberTellsUptoRow : OpenClaim := { program := "ytmgjhofecncgnaa", sum := "3d9443de409605c9ef1b0811a19abdce3a14079375c33de9d9a679de147400e2", func := "muslin/muslinlaw03.NumberTells", spec := "numberTells", unfollowed := true, recurses := true, apart := false, narrowed := true }
def NumberTellsUptoSaid : Prop := numberTellsUptoRow.holds Try.pinned (OpenSpec.upto numberTellsSpec)

/-- 'muslinlaw24.JoinOrder', WHERE WHAT IT READS IS OF BULK AT MOST 1048576: true; the input reads as it did. -/
def joinOrderUptoRow : OpenClaim := { program := "ytmgjhofecncgnaa", sum := "3d9443de409605c9ef1b0811a19abdce3a14079375c33de9d9a679de147400e2", func := "muslin/muslinlaw24.JoinOrder", spec := "joinOrder", unfollowed := true, recurses := true, apart := false, narrowed := true }
def JoinOrderUptoSaid : Prop := joinOrderUptoRow.holds Try.pinned (OpenSpec.upto joinOrderSpec)

/-- 'muslinlaw27.EvalWith', WHERE WHAT IT READS IS OF BULK AT MOST 1048576: true; the input reads as it did. -/
def evalWithUptoRow : OpenClaim := { program := "ytmgjhofecncgnaa", sum := "3d9443de409605c9ef1b0811a19abdce3a14079375c33de9d9a679de147400e2", func := "muslin/muslinlaw27.EvalWith", spec := "evalWith", unfollowed := true, recurses := true, loops := true, apart := false, narrowed := true }
def EvalWithUptoSaid : Prop := evalWithUptoRow.holds Try.pinned (OpenSpec.upto evalWithSpec)

/-- 'muslinlaw04.ValuesMake', WHERE WHAT IT READS IS OF BULK AT MOST 1048576: true; the input reads as it did. -/
def valuesMakeUptoRow : OpenClaim := { program := "ytmgjhofecncgnaa", sum := "3d9443de409605c9ef1b0811a19abdce3a14079375c33de9d9a679de147400e2", func := "muslin/muslinlaw04.ValuesMake", spec := "valuesMake", inPlace := ["internal/abi.NoEscape"], unfollowed := true, recurses := true, apart := false, narrowed := true }
def ValuesMakeUptoSaid : Prop := valuesMakeUptoRow.holds Try.pinned (OpenSpec.upto valuesMakeSpec)

end Rows
end Go.Proofs.Ytmgjhofecncgnaa
