/-
  DERIVED. GIVEN WITH THE SEED: THE CARDS: each row of YtlandmahjdaphaaDoorRows.lean that lists a variable, with what it lists TIED to the program's text (the seventh form; the later family's looks); each row that meets fmt, with fmt's text TOLD by the authors' own Lean function (tested against real Go, not proved from fmt's source: count such statements apart). THE CARD IS WHAT COUNTS. Prove the row's statement (the work); the ties are given (YtlandmahjdaphaaDoorTie.lean); close each card by the builder's one call (the guide's Derived/Test/ToyasCard.lean, 'card_holds'). Laid BY PROGRAM, IN A SANDBOX (cutbox-door.mjs). By AI agents, Wed Nov 11 2026. No macro, syntax, notation, axiom, sorry.
-/
import Derived.Test.YtlandmahjdaphaaDoorRows
import GoSem.ClaimSeven
namespace Go.Proofs.YtlandmahjdaphaaDoor
namespace Rows

/-- THE TIED CARD OF 'muslinlaw15.JsscanParts'. -/
def jsscanPartsCard : Claim7 := { stood := { row := jsscanPartsRow, standIns := [], harness := (true, "86996bb8e988cd9ba7b87e76e4f41b757ee71e0453b24aa4db1f8de525e7341d"), looks := true }, kinds := [], alts := [], laidByText := true, laidKinds := [.data, .listed, .data, .pinned], laidTests := true, laidLooks := .later }
def JsscanPartsCardSaid : Prop := Claim7.holds Tryd.pinned (.plain (OpenSpec.ofChange jsscanPartsSpec)) jsscanPartsCard

/-- THE TIED CARD OF 'muslinlaw15.JsscanRemarks'. -/
def jsscanRemarksCard : Claim7 := { stood := { row := jsscanRemarksRow, standIns := [], harness := (true, "86996bb8e988cd9ba7b87e76e4f41b757ee71e0453b24aa4db1f8de525e7341d"), looks := true }, kinds := [], alts := [], laidByText := true, laidKinds := [.data, .listed, .data, .pinned], laidTests := true, laidLooks := .later }
def JsscanRemarksCardSaid : Prop := Claim7.holds Tryd.pinned (.plain (OpenSpec.ofChange jsscanRemarksSpec)) jsscanRemarksCard

/-- THE TIED CARD OF 'muslinlaw15.JsscanStrings'. -/
def jsscanStringsCard : Claim7 := { stood := { row := jsscanStringsRow, standIns := [], harness := (true, "86996bb8e988cd9ba7b87e76e4f41b757ee71e0453b24aa4db1f8de525e7341d"), looks := true }, kinds := [], alts := [], laidByText := true, laidKinds := [.data, .listed, .data, .pinned], laidTests := true, laidLooks := .later }
def JsscanStringsCardSaid : Prop := Claim7.holds Tryd.pinned (.plain (OpenSpec.ofChange jsscanStringsSpec)) jsscanStringsCard

/-- THE TIED CARD OF 'muslinlaw13.MarksReads'. -/
def marksReadsCard : Claim7 := { stood := { row := marksReadsRow, standIns := [], harness := (true, "86996bb8e988cd9ba7b87e76e4f41b757ee71e0453b24aa4db1f8de525e7341d"), looks := true }, kinds := [], alts := [], laidByText := true, laidKinds := [.data, .pinned], laidTests := true, laidLooks := .later }
def MarksReadsCardSaid : Prop := Claim7.holds Tryd.pinned (.plain (OpenSpec.ofChange marksReadsSpec)) marksReadsCard

/-- THE TIED CARD OF 'muslinlaw13.MarksUnlike'. -/
def marksUnlikeCard : Claim7 := { stood := { row := marksUnlikeRow, standIns := [], harness := (true, "86996bb8e988cd9ba7b87e76e4f41b757ee71e0453b24aa4db1f8de525e7341d"), looks := true }, kinds := [], alts := [], laidByText := true, laidKinds := [.data, .pinned], laidTests := true, laidLooks := .later }
def MarksUnlikeCardSaid : Prop := Claim7.holds Tryd.pinned (.plain (OpenSpec.ofChange marksUnlikeSpec)) marksUnlikeCard

/-- THE SECOND FORM's CARD OF 'muslinlaw15.JsscanParts'. -/
def jsscanPartsUptoCard : Claim7 := { stood := { row := jsscanPartsUptoRow, standIns := [], harness := (true, "86996bb8e988cd9ba7b87e76e4f41b757ee71e0453b24aa4db1f8de525e7341d"), looks := true }, kinds := [], alts := [], laidByText := true, laidKinds := [.data, .listed, .data, .pinned], laidTests := true, laidLooks := .later }
def JsscanPartsUptoCardSaid : Prop := Claim7.holds Tryd.pinned (.plain (OpenSpec.upto jsscanPartsSpec)) jsscanPartsUptoCard

/-- THE SECOND FORM's CARD OF 'muslinlaw15.JsscanRemarks'. -/
def jsscanRemarksUptoCard : Claim7 := { stood := { row := jsscanRemarksUptoRow, standIns := [], harness := (true, "86996bb8e988cd9ba7b87e76e4f41b757ee71e0453b24aa4db1f8de525e7341d"), looks := true }, kinds := [], alts := [], laidByText := true, laidKinds := [.data, .listed, .data, .pinned], laidTests := true, laidLooks := .later }
def JsscanRemarksUptoCardSaid : Prop := Claim7.holds Tryd.pinned (.plain (OpenSpec.upto jsscanRemarksSpec)) jsscanRemarksUptoCard

/-- THE SECOND FORM's CARD OF 'muslinlaw15.JsscanStrings'. -/
def jsscanStringsUptoCard : Claim7 := { stood := { row := jsscanStringsUptoRow, standIns := [], harness := (true, "86996bb8e988cd9ba7b87e76e4f41b757ee71e0453b24aa4db1f8de525e7341d"), looks := true }, kinds := [], alts := [], laidByText := true, laidKinds := [.data, .listed, .data, .pinned], laidTests := true, laidLooks := .later }
def JsscanStringsUptoCardSaid : Prop := Claim7.holds Tryd.pinned (.plain (OpenSpec.upto jsscanStringsSpec)) jsscanStringsUptoCard

/-- THE SECOND FORM's CARD OF 'muslinlaw13.MarksReads'. -/
def marksReadsUptoCard : Claim7 := { stood := { row := marksReadsUptoRow, standIns := [], harness := (true, "86996bb8e988cd9ba7b87e76e4f41b757ee71e0453b24aa4db1f8de525e7341d"), looks := true }, kinds := [], alts := [], laidByText := true, laidKinds := [.data, .pinned], laidTests := true, laidLooks := .later }
def MarksReadsUptoCardSaid : Prop := Claim7.holds Tryd.pinned (.plain (OpenSpec.upto marksReadsSpec)) marksReadsUptoCard

/-- THE SECOND FORM's CARD OF 'muslinlaw13.MarksUnlike'. -/
def marksUnlikeUptoCard : Claim7 := { stood := { row := marksUnlikeUptoRow, standIns := [], harness := (true, "86996bb8e988cd9ba7b87e76e4f41b757ee71e0453b24aa4db1f8de525e7341d"), looks := true }, kinds := [], alts := [], laidByText := true, laidKinds := [.data, .pinned], laidTests := true, laidLooks := .later }
def MarksUnlikeUptoCardSaid : Prop := Claim7.holds Tryd.pinned (.plain (OpenSpec.upto marksUnlikeSpec)) marksUnlikeUptoCard
end Rows
end Go.Proofs.YtlandmahjdaphaaDoor
