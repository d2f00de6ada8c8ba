/-
  DERIVED. GIVEN WITH THE SEED: THE CARDS: each row of YtdnmgpidfjkiaaaDoorRows.lean that lists a variable, with what it lists TIED to the program's text (the seventh form; the later family's looks); each row that meets fmt, with fmt's text TOLD by the authors' own Lean function (tested against real Go, not proved from fmt's source: count such statements apart). THE CARD IS WHAT COUNTS. Prove the row's statement (the work); the ties are given (YtdnmgpidfjkiaaaDoorTie.lean); close each card by the builder's one call (the guide's Derived/Test/ToyasCard.lean, 'card_holds'). Laid BY PROGRAM, IN A SANDBOX (cutbox-door.mjs). By AI agents, Wed Nov 11 2026. No macro, syntax, notation, axiom, sorry.
-/
import Derived.Test.YtdnmgpidfjkiaaaDoorRows
import GoSem.ClaimSeven
namespace Go.Proofs.YtdnmgpidfjkiaaaDoor
namespace Rows

/-- THE TIED CARD OF 'muslinlaw05.LiteralReads'. -/
def literalReadsCard : Claim7 := { stood := { row := literalReadsRow, standIns := [], harness := (true, "f5d2765c426809d828199e1c4ad093c49e87255da490c7d5bf5aa6d3e05cdd84"), looks := true }, kinds := [], alts := [], laidByText := true, laidKinds := [.data, .pinned], laidTests := true, laidLooks := .later }
def LiteralReadsCardSaid : Prop := Claim7.holds Tryd.pinned (.plain (OpenSpec.ofChange literalReadsSpec)) literalReadsCard

/-- THE TIED CARD OF 'muslinlaw05.LiteralOwn'. -/
def literalOwnCard : Claim7 := { stood := { row := literalOwnRow, standIns := [], harness := (true, "f5d2765c426809d828199e1c4ad093c49e87255da490c7d5bf5aa6d3e05cdd84"), looks := true }, kinds := [], alts := [], laidByText := true, laidKinds := [.data, .pinned], laidTests := true, laidLooks := .later }
def LiteralOwnCardSaid : Prop := Claim7.holds Tryd.pinned (.plain (OpenSpec.ofChange literalOwnSpec)) literalOwnCard

/-- THE TIED CARD OF 'muslinlaw05.LiteralCuts'. -/
def literalCutsCard : Claim7 := { stood := { row := literalCutsRow, standIns := [], harness := (true, "f5d2765c426809d828199e1c4ad093c49e87255da490c7d5bf5aa6d3e05cdd84"), looks := true }, kinds := [], alts := [], laidByText := true, laidKinds := [.data, .pinned], laidTests := true, laidLooks := .later }
def LiteralCutsCardSaid : Prop := Claim7.holds Tryd.pinned (.plain (OpenSpec.ofChange literalCutsSpec)) literalCutsCard

/-- THE TIED CARD OF 'muslinlaw38.JslexPieces'. -/
def jslexPiecesCard : Claim7 := { stood := { row := jslexPiecesRow, standIns := [], harness := (true, "f5d2765c426809d828199e1c4ad093c49e87255da490c7d5bf5aa6d3e05cdd84"), looks := true }, kinds := [], alts := [], laidByText := true, laidKinds := [.listed, .data], laidTests := true, laidLooks := .later }
def JslexPiecesCardSaid : Prop := Claim7.holds Tryd.pinned (.plain (OpenSpec.ofChange jslexPiecesSpec)) jslexPiecesCard

/-- THE TIED CARD OF 'muslinlaw38.JslexHoles'. -/
def jslexHolesCard : Claim7 := { stood := { row := jslexHolesRow, standIns := [], harness := (true, "f5d2765c426809d828199e1c4ad093c49e87255da490c7d5bf5aa6d3e05cdd84"), looks := true }, kinds := [], alts := [], laidByText := true, laidKinds := [.listed, .data], laidTests := true, laidLooks := .later }
def JslexHolesCardSaid : Prop := Claim7.holds Tryd.pinned (.plain (OpenSpec.ofChange jslexHolesSpec)) jslexHolesCard

/-- THE TIED CARD OF 'muslinlaw38.JslexTexts'. -/
def jslexTextsCard : Claim7 := { stood := { row := jslexTextsRow, standIns := [], harness := (true, "f5d2765c426809d828199e1c4ad093c49e87255da490c7d5bf5aa6d3e05cdd84"), looks := true }, kinds := [], alts := [], laidByText := true, laidKinds := [.listed, .data], laidTests := true, laidLooks := .later }
def JslexTextsCardSaid : Prop := Claim7.holds Tryd.pinned (.plain (OpenSpec.ofChange jslexTextsSpec)) jslexTextsCard

/-- THE TIED CARD OF 'muslinlaw38.JslexSpec'. -/
def jslexSpecCard : Claim7 := { stood := { row := jslexSpecRow, standIns := [], harness := (true, "f5d2765c426809d828199e1c4ad093c49e87255da490c7d5bf5aa6d3e05cdd84"), looks := true }, kinds := [], alts := [], laidByText := true, laidKinds := [.listed, .data], laidTests := true, laidLooks := .later }
def JslexSpecCardSaid : Prop := Claim7.holds Tryd.pinned (.plain (OpenSpec.ofChange jslexSpecSpec)) jslexSpecCard

/-- THE TIED CARD OF 'muslinlaw15.JsscanLiterals'. -/
def jsscanLiteralsCard : Claim7 := { stood := { row := jsscanLiteralsRow, standIns := [], harness := (true, "f5d2765c426809d828199e1c4ad093c49e87255da490c7d5bf5aa6d3e05cdd84"), looks := true }, kinds := [], alts := [], laidByText := true, laidKinds := [.data, .listed, .data, .pinned], laidTests := true, laidLooks := .later }
def JsscanLiteralsCardSaid : Prop := Claim7.holds Tryd.pinned (.plain (OpenSpec.ofChange jsscanLiteralsSpec)) jsscanLiteralsCard

/-- THE SECOND FORM's CARD OF 'muslinlaw05.LiteralReads'. -/
def literalReadsUptoCard : Claim7 := { stood := { row := literalReadsUptoRow, standIns := [], harness := (true, "f5d2765c426809d828199e1c4ad093c49e87255da490c7d5bf5aa6d3e05cdd84"), looks := true }, kinds := [], alts := [], laidByText := true, laidKinds := [.data, .pinned], laidTests := true, laidLooks := .later }
def LiteralReadsUptoCardSaid : Prop := Claim7.holds Tryd.pinned (.plain (OpenSpec.upto literalReadsSpec)) literalReadsUptoCard

/-- THE SECOND FORM's CARD OF 'muslinlaw05.LiteralOwn'. -/
def literalOwnUptoCard : Claim7 := { stood := { row := literalOwnUptoRow, standIns := [], harness := (true, "f5d2765c426809d828199e1c4ad093c49e87255da490c7d5bf5aa6d3e05cdd84"), looks := true }, kinds := [], alts := [], laidByText := true, laidKinds := [.data, .pinned], laidTests := true, laidLooks := .later }
def LiteralOwnUptoCardSaid : Prop := Claim7.holds Tryd.pinned (.plain (OpenSpec.upto literalOwnSpec)) literalOwnUptoCard

/-- THE SECOND FORM's CARD OF 'muslinlaw05.LiteralCuts'. -/
def literalCutsUptoCard : Claim7 := { stood := { row := literalCutsUptoRow, standIns := [], harness := (true, "f5d2765c426809d828199e1c4ad093c49e87255da490c7d5bf5aa6d3e05cdd84"), looks := true }, kinds := [], alts := [], laidByText := true, laidKinds := [.data, .pinned], laidTests := true, laidLooks := .later }
def LiteralCutsUptoCardSaid : Prop := Claim7.holds Tryd.pinned (.plain (OpenSpec.upto literalCutsSpec)) literalCutsUptoCard

/-- THE SECOND FORM's CARD OF 'muslinlaw38.JslexPieces'. -/
def jslexPiecesUptoCard : Claim7 := { stood := { row := jslexPiecesUptoRow, standIns := [], harness := (true, "f5d2765c426809d828199e1c4ad093c49e87255da490c7d5bf5aa6d3e05cdd84"), looks := true }, kinds := [], alts := [], laidByText := true, laidKinds := [.listed, .data], laidTests := true, laidLooks := .later }
def JslexPiecesUptoCardSaid : Prop := Claim7.holds Tryd.pinned (.plain (OpenSpec.upto jslexPiecesSpec)) jslexPiecesUptoCard

/-- THE SECOND FORM's CARD OF 'muslinlaw38.JslexHoles'. -/
def jslexHolesUptoCard : Claim7 := { stood := { row := jslexHolesUptoRow, standIns := [], harness := (true, "f5d2765c426809d828199e1c4ad093c49e87255da490c7d5bf5aa6d3e05cdd84"), looks := true }, kinds := [], alts := [], laidByText := true, laidKinds := [.listed, .data], laidTests := true, laidLooks := .later }
def JslexHolesUptoCardSaid : Prop := Claim7.holds Tryd.pinned (.plain (OpenSpec.upto jslexHolesSpec)) jslexHolesUptoCard

/-- THE SECOND FORM's CARD OF 'muslinlaw38.JslexTexts'. -/
def jslexTextsUptoCard : Claim7 := { stood := { row := jslexTextsUptoRow, standIns := [], harness := (true, "f5d2765c426809d828199e1c4ad093c49e87255da490c7d5bf5aa6d3e05cdd84"), looks := true }, kinds := [], alts := [], laidByText := true, laidKinds := [.listed, .data], laidTests := true, laidLooks := .later }
def JslexTextsUptoCardSaid : Prop := Claim7.holds Tryd.pinned (.plain (OpenSpec.upto jslexTextsSpec)) jslexTextsUptoCard

/-- THE SECOND FORM's CARD OF 'muslinlaw38.JslexSpec'. -/
def jslexSpecUptoCard : Claim7 := { stood := { row := jslexSpecUptoRow, standIns := [], harness := (true, "f5d2765c426809d828199e1c4ad093c49e87255da490c7d5bf5aa6d3e05cdd84"), looks := true }, kinds := [], alts := [], laidByText := true, laidKinds := [.listed, .data], laidTests := true, laidLooks := .later }
def JslexSpecUptoCardSaid : Prop := Claim7.holds Tryd.pinned (.plain (OpenSpec.upto jslexSpecSpec)) jslexSpecUptoCard

/-- THE SECOND FORM's CARD OF 'muslinlaw15.JsscanLiterals'. -/
def jsscanLiteralsUptoCard : Claim7 := { stood := { row := jsscanLiteralsUptoRow, standIns := [], harness := (true, "f5d2765c426809d828199e1c4ad093c49e87255da490c7d5bf5aa6d3e05cdd84"), looks := true }, kinds := [], alts := [], laidByText := true, laidKinds := [.data, .listed, .data, .pinned], laidTests := true, laidLooks := .later }
def JsscanLiteralsUptoCardSaid : Prop := Claim7.holds Tryd.pinned (.plain (OpenSpec.upto jsscanLiteralsSpec)) jsscanLiteralsUptoCard
end Rows
end Go.Proofs.YtdnmgpidfjkiaaaDoor
