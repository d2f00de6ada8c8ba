/-
  DERIVED. GIVEN WITH THE SEED: THE CARDS: each row of YtmgjhofecncgnaaDoorRows.lean that lists a variable, with what it lists TIED to the program's text (the seventh form; the later family's looks); each row that meets fmt, with fmt's text TOLD by the authors' own Lean function (tested against real Go, not proved from fmt's source: count such statements apart). THE CARD IS WHAT COUNTS. Prove the row's statement (the work); the ties are given (YtmgjhofecncgnaaDoorTie.lean); close each card by the builder's one call (the guide's Derived/Test/ToyasCard.lean, 'card_holds'). Laid BY PROGRAM, IN A SANDBOX (cutbox-door.mjs). By AI agents, Wed Nov 11 2026. No macro, syntax, notation, axiom, sorry.
-/
import Derived.Test.YtmgjhofecncgnaaDoorRows
import GoSem.ClaimSeven
namespace Go.Proofs.YtmgjhofecncgnaaDoor
namespace Rows

/-- THE TIED CARD OF 'muslinlaw01.OctetsTells'. -/
def octetsTellsCard : Claim7 := { stood := { row := octetsTellsRow, standIns := [], harness := (true, "e5ba08def24de8caaceb7921792edc4aefed6491838a0d5e0c101516a74effc0"), looks := false }, kinds := [], alts := [], laidByText := true, laidKinds := [.data, .pinned], laidTests := true, laidLooks := .later }
def OctetsTellsCardSaid : Prop := Claim7.holds Tryd.pinned (.plain (OpenSpec.ofChange octetsTellsSpec)) octetsTellsCard

/-- THE TIED CARD OF 'muslinlaw01.OctetsCases'. -/
def octetsCasesCard : Claim7 := { stood := { row := octetsCasesRow, standIns := [], harness := (true, "e5ba08def24de8caaceb7921792edc4aefed6491838a0d5e0c101516a74effc0"), looks := false }, kinds := [], alts := [], laidByText := true, laidKinds := [.data, .pinned], laidTests := true, laidLooks := .later }
def OctetsCasesCardSaid : Prop := Claim7.holds Tryd.pinned (.plain (OpenSpec.ofChange octetsCasesSpec)) octetsCasesCard

/-- THE SECOND FORM's CARD OF 'muslinlaw01.OctetsTells'. -/
def octetsTellsUptoCard : Claim7 := { stood := { row := octetsTellsUptoRow, standIns := [], harness := (true, "e5ba08def24de8caaceb7921792edc4aefed6491838a0d5e0c101516a74effc0"), looks := false }, kinds := [], alts := [], laidByText := true, laidKinds := [.data, .pinned], laidTests := true, laidLooks := .later }
def OctetsTellsUptoCardSaid : Prop := Claim7.holds Tryd.pinned (.plain (OpenSpec.upto octetsTellsSpec)) octetsTellsUptoCard

/-- THE SECOND FORM's CARD OF 'muslinlaw01.OctetsCases'. -/
def octetsCasesUptoCard : Claim7 := { stood := { row := octetsCasesUptoRow, standIns := [], harness := (true, "e5ba08def24de8caaceb7921792edc4aefed6491838a0d5e0c101516a74effc0"), looks := false }, kinds := [], alts := [], laidByText := true, laidKinds := [.data, .pinned], laidTests := true, laidLooks := .later }
def OctetsCasesUptoCardSaid : Prop := Claim7.holds Tryd.pinned (.plain (OpenSpec.upto octetsCasesSpec)) octetsCasesUptoCard
end Rows
end Go.Proofs.YtmgjhofecncgnaaDoor
