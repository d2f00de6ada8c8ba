/-
  DERIVED. GIVEN WITH THE SEED: THE CARDS: each row of YtnepogddjinpoaaGreatDoorRows.lean that lists a variable, with what it lists TIED to the program's text (the seventh form; the later family's looks); each row that meets fmt, with fmt's text TOLD by the authors' own Lean function (tested against real Go, not proved from fmt's source: count such statements apart). THE CARD IS WHAT COUNTS. Prove the row's statement (the work); the ties are given (YtnepogddjinpoaaGreatDoorTie.lean); close each card by the builder's one call (the guide's Derived/Test/ToyasCard.lean, 'card_holds'). Laid BY PROGRAM, IN A SANDBOX (cutbox-door.mjs). By AI agents, Wed Nov 11 2026. No macro, syntax, notation, axiom, sorry.
-/
import Derived.Test.YtnepogddjinpoaaGreatDoorRows
import GoSem.ClaimSeven
namespace Go.Proofs.YtnepogddjinpoaaGreatDoor
namespace Rows

/-- THE TIED CARD OF 'muslinlaw41.FoldConstant'. -/
def foldConstantCard : Claim7 := { stood := { row := foldConstantRow, standIns := [], harness := (true, "1b98ea4dfda1363a9a08e9305459e05fa5c50dc058fa938a65e65377feb8c516"), looks := false }, kinds := [], alts := [], laidByText := true, laidKinds := [.data, .pinned], laidTests := true, laidLooks := .later }
def FoldConstantCardSaid : Prop := Claim7.holds Tryz.pinned (.plain (OpenSpec.ofChange foldConstantSpec)) foldConstantCard

/-- THE TIED CARD OF 'muslinlaw41.FoldMerges'. -/
def foldMergesCard : Claim7 := { stood := { row := foldMergesRow, standIns := [], harness := (true, "1b98ea4dfda1363a9a08e9305459e05fa5c50dc058fa938a65e65377feb8c516"), looks := false }, kinds := [], alts := [], laidByText := true, laidKinds := [.data, .pinned], laidTests := true, laidLooks := .later }
def FoldMergesCardSaid : Prop := Claim7.holds Tryz.pinned (.plain (OpenSpec.ofChange foldMergesSpec)) foldMergesCard

/-- THE TIED CARD OF 'muslinlaw41.FoldOnce'. -/
def foldOnceCard : Claim7 := { stood := { row := foldOnceRow, standIns := [], harness := (true, "1b98ea4dfda1363a9a08e9305459e05fa5c50dc058fa938a65e65377feb8c516"), looks := false }, kinds := [], alts := [], laidByText := true, laidKinds := [.data, .pinned], laidTests := true, laidLooks := .later }
def FoldOnceCardSaid : Prop := Claim7.holds Tryz.pinned (.plain (OpenSpec.ofChange foldOnceSpec)) foldOnceCard

/-- THE SECOND FORM's CARD OF 'muslinlaw41.FoldConstant'. -/
def foldConstantUptoCard : Claim7 := { stood := { row := foldConstantUptoRow, standIns := [], harness := (true, "1b98ea4dfda1363a9a08e9305459e05fa5c50dc058fa938a65e65377feb8c516"), looks := false }, kinds := [], alts := [], laidByText := true, laidKinds := [.data, .pinned], laidTests := true, laidLooks := .later }
def FoldConstantUptoCardSaid : Prop := Claim7.holds Tryz.pinned (.plain (OpenSpec.upto foldConstantSpec)) foldConstantUptoCard

/-- THE SECOND FORM's CARD OF 'muslinlaw41.FoldMerges'. -/
def foldMergesUptoCard : Claim7 := { stood := { row := foldMergesUptoRow, standIns := [], harness := (true, "1b98ea4dfda1363a9a08e9305459e05fa5c50dc058fa938a65e65377feb8c516"), looks := false }, kinds := [], alts := [], laidByText := true, laidKinds := [.data, .pinned], laidTests := true, laidLooks := .later }
def FoldMergesUptoCardSaid : Prop := Claim7.holds Tryz.pinned (.plain (OpenSpec.upto foldMergesSpec)) foldMergesUptoCard

/-- THE SECOND FORM's CARD OF 'muslinlaw41.FoldOnce'. -/
def foldOnceUptoCard : Claim7 := { stood := { row := foldOnceUptoRow, standIns := [], harness := (true, "1b98ea4dfda1363a9a08e9305459e05fa5c50dc058fa938a65e65377feb8c516"), looks := false }, kinds := [], alts := [], laidByText := true, laidKinds := [.data, .pinned], laidTests := true, laidLooks := .later }
def FoldOnceUptoCardSaid : Prop := Claim7.holds Tryz.pinned (.plain (OpenSpec.upto foldOnceSpec)) foldOnceUptoCard
end Rows
end Go.Proofs.YtnepogddjinpoaaGreatDoor
