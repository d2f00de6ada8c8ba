/-
  DERIVED. GIVEN WITH THE SEED: THE CARDS: each row of YtbcbbeenkndgcaaDoorRows.lean that lists a variable, with what it lists TIED to the program's text (the seventh form; the later family's looks); each row that meets fmt, with fmt's text TOLD by the authors' own Lean function (tested against real Go, not proved from fmt's source: count such statements apart). THE CARD IS WHAT COUNTS. Prove the row's statement (the work); the ties are given (YtbcbbeenkndgcaaDoorTie.lean); close each card by the builder's one call (the guide's Derived/Test/ToyasCard.lean, 'card_holds'). Laid BY PROGRAM, IN A SANDBOX (cutbox-door.mjs). By AI agents, Wed Nov 11 2026. No macro, syntax, notation, axiom, sorry.
-/
import Derived.Test.YtbcbbeenkndgcaaDoorRows
import GoSem.ClaimSeven
namespace Go.Proofs.YtbcbbeenkndgcaaDoor
namespace Rows

/-- THE TIED CARD OF 'muslinlaw07.PercentBack'. -/
def percentBackCard : Claim7 := { stood := { row := percentBackRow, standIns := [], harness := (true, "371ac0ccf9492122f9d8bbe6f9c9ec9f932291ee2950c7d97f9161ea74c5bf59"), looks := false }, kinds := [], alts := [], laidByText := true, laidKinds := [.data, .pinned], laidTests := true, laidLooks := .later }
def PercentBackCardSaid : Prop := Claim7.holds Tryd.pinned (.plain (OpenSpec.ofChange percentBackSpec)) percentBackCard

/-- THE TIED CARD OF 'muslinlaw07.PercentParts'. -/
def percentPartsCard : Claim7 := { stood := { row := percentPartsRow, standIns := [], harness := (true, "371ac0ccf9492122f9d8bbe6f9c9ec9f932291ee2950c7d97f9161ea74c5bf59"), looks := false }, kinds := [], alts := [], laidByText := true, laidKinds := [.data, .pinned], laidTests := true, laidLooks := .later }
def PercentPartsCardSaid : Prop := Claim7.holds Tryd.pinned (.plain (OpenSpec.ofChange percentPartsSpec)) percentPartsCard

/-- THE TIED CARD OF 'muslinlaw07.PercentNormal'. -/
def percentNormalCard : Claim7 := { stood := { row := percentNormalRow, standIns := [], harness := (true, "371ac0ccf9492122f9d8bbe6f9c9ec9f932291ee2950c7d97f9161ea74c5bf59"), looks := false }, kinds := [], alts := [], laidByText := true, laidKinds := [.data, .pinned], laidTests := true, laidLooks := .later }
def PercentNormalCardSaid : Prop := Claim7.holds Tryd.pinned (.plain (OpenSpec.ofChange percentNormalSpec)) percentNormalCard

/-- THE TIED CARD OF 'muslinlaw08.SchemesFilters'. -/
def schemesFiltersCard : Claim7 := { stood := { row := schemesFiltersRow, standIns := [], harness := (true, "371ac0ccf9492122f9d8bbe6f9c9ec9f932291ee2950c7d97f9161ea74c5bf59"), looks := false }, kinds := [], alts := [], laidByText := true, laidKinds := [.data, .pinned], laidTests := true, laidLooks := .later }
def SchemesFiltersCardSaid : Prop := Claim7.holds Tryd.pinned (.plain (OpenSpec.ofChange schemesFiltersSpec)) schemesFiltersCard

/-- THE TIED CARD OF 'muslinlaw08.SchemesHidden'. -/
def schemesHiddenCard : Claim7 := { stood := { row := schemesHiddenRow, standIns := [], harness := (true, "371ac0ccf9492122f9d8bbe6f9c9ec9f932291ee2950c7d97f9161ea74c5bf59"), looks := false }, kinds := [], alts := [], laidByText := true, laidKinds := [.data, .pinned], laidTests := true, laidLooks := .later }
def SchemesHiddenCardSaid : Prop := Claim7.holds Tryd.pinned (.plain (OpenSpec.ofChange schemesHiddenSpec)) schemesHiddenCard

/-- THE TIED CARD OF 'muslinlaw08.SchemesTells'. -/
def schemesTellsCard : Claim7 := { stood := { row := schemesTellsRow, standIns := [], harness := (true, "371ac0ccf9492122f9d8bbe6f9c9ec9f932291ee2950c7d97f9161ea74c5bf59"), looks := false }, kinds := [], alts := [], laidByText := true, laidKinds := [.data, .pinned], laidTests := true, laidLooks := .later }
def SchemesTellsCardSaid : Prop := Claim7.holds Tryd.pinned (.plain (OpenSpec.ofChange schemesTellsSpec)) schemesTellsCard

/-- THE TIED CARD OF 'muslinlaw40.UrlpartsPairs'. -/
def urlpartsPairsCard : Claim7 := { stood := { row := urlpartsPairsRow, standIns := [], harness := (true, "371ac0ccf9492122f9d8bbe6f9c9ec9f932291ee2950c7d97f9161ea74c5bf59"), looks := false }, kinds := [], alts := [], laidByText := true, laidKinds := [.data, .pinned], laidTests := true, laidLooks := .later }
def UrlpartsPairsCardSaid : Prop := Claim7.holds Tryd.pinned (.plain (OpenSpec.ofChange urlpartsPairsSpec)) urlpartsPairsCard

/-- THE TIED CARD OF 'muslinlaw11.TablesScripts'. -/
def tablesScriptsCard : Claim7 := { stood := { row := tablesScriptsRow, standIns := [], harness := (true, "371ac0ccf9492122f9d8bbe6f9c9ec9f932291ee2950c7d97f9161ea74c5bf59"), looks := false }, kinds := [], alts := [], laidByText := true, laidKinds := [.listed, .data], laidTests := true, laidLooks := .later }
def TablesScriptsCardSaid : Prop := Claim7.holds Tryd.pinned (.plain (OpenSpec.ofChange tablesScriptsSpec)) tablesScriptsCard

/-- THE TIED CARD OF 'muslinlaw11.TablesTells'. -/
def tablesTellsCard : Claim7 := { stood := { row := tablesTellsRow, standIns := [], harness := (true, "371ac0ccf9492122f9d8bbe6f9c9ec9f932291ee2950c7d97f9161ea74c5bf59"), looks := false }, kinds := [], alts := [], laidByText := true, laidKinds := [.listed, .data], laidTests := true, laidLooks := .later }
def TablesTellsCardSaid : Prop := Claim7.holds Tryd.pinned (.plain (OpenSpec.ofChange tablesTellsSpec)) tablesTellsCard

/-- THE TIED CARD OF 'muslinlaw11.TablesOwn'. -/
def tablesOwnCard : Claim7 := { stood := { row := tablesOwnRow, standIns := [], harness := (true, "371ac0ccf9492122f9d8bbe6f9c9ec9f932291ee2950c7d97f9161ea74c5bf59"), looks := false }, kinds := [], alts := [], laidByText := true, laidKinds := [.listed, .data], laidTests := true, laidLooks := .later }
def TablesOwnCardSaid : Prop := Claim7.holds Tryd.pinned (.plain (OpenSpec.ofChange tablesOwnSpec)) tablesOwnCard

/-- THE TIED CARD OF 'muslinlaw09.JstextParts'. -/
def jstextPartsCard : Claim7 := { stood := { row := jstextPartsRow, standIns := [], harness := (true, "371ac0ccf9492122f9d8bbe6f9c9ec9f932291ee2950c7d97f9161ea74c5bf59"), looks := false }, kinds := [], alts := [], laidByText := true, laidKinds := [.data, .pinned], laidTests := true, laidLooks := .later }
def JstextPartsCardSaid : Prop := Claim7.holds Tryd.pinned (.plain (OpenSpec.ofChange jstextPartsSpec)) jstextPartsCard

/-- THE TIED CARD OF 'muslinlaw09.JstextEnds'. -/
def jstextEndsCard : Claim7 := { stood := { row := jstextEndsRow, standIns := [], harness := (true, "371ac0ccf9492122f9d8bbe6f9c9ec9f932291ee2950c7d97f9161ea74c5bf59"), looks := false }, kinds := [], alts := [], laidByText := true, laidKinds := [.data, .pinned], laidTests := true, laidLooks := .later }
def JstextEndsCardSaid : Prop := Claim7.holds Tryd.pinned (.plain (OpenSpec.ofChange jstextEndsSpec)) jstextEndsCard

/-- THE TIED CARD OF 'muslinlaw09.JstextBack'. -/
def jstextBackCard : Claim7 := { stood := { row := jstextBackRow, standIns := [], harness := (true, "371ac0ccf9492122f9d8bbe6f9c9ec9f932291ee2950c7d97f9161ea74c5bf59"), looks := false }, kinds := [], alts := [], laidByText := true, laidKinds := [.data, .pinned], laidTests := true, laidLooks := .later }
def JstextBackCardSaid : Prop := Claim7.holds Tryd.pinned (.plain (OpenSpec.ofChange jstextBackSpec)) jstextBackCard

/-- THE SECOND FORM's CARD OF 'muslinlaw07.PercentBack'. -/
def percentBackUptoCard : Claim7 := { stood := { row := percentBackUptoRow, standIns := [], harness := (true, "371ac0ccf9492122f9d8bbe6f9c9ec9f932291ee2950c7d97f9161ea74c5bf59"), looks := false }, kinds := [], alts := [], laidByText := true, laidKinds := [.data, .pinned], laidTests := true, laidLooks := .later }
def PercentBackUptoCardSaid : Prop := Claim7.holds Tryd.pinned (.plain (OpenSpec.upto percentBackSpec)) percentBackUptoCard

/-- THE SECOND FORM's CARD OF 'muslinlaw07.PercentParts'. -/
def percentPartsUptoCard : Claim7 := { stood := { row := percentPartsUptoRow, standIns := [], harness := (true, "371ac0ccf9492122f9d8bbe6f9c9ec9f932291ee2950c7d97f9161ea74c5bf59"), looks := false }, kinds := [], alts := [], laidByText := true, laidKinds := [.data, .pinned], laidTests := true, laidLooks := .later }
def PercentPartsUptoCardSaid : Prop := Claim7.holds Tryd.pinned (.plain (OpenSpec.upto percentPartsSpec)) percentPartsUptoCard

/-- THE SECOND FORM's CARD OF 'muslinlaw07.PercentNormal'. -/
def percentNormalUptoCard : Claim7 := { stood := { row := percentNormalUptoRow, standIns := [], harness := (true, "371ac0ccf9492122f9d8bbe6f9c9ec9f932291ee2950c7d97f9161ea74c5bf59"), looks := false }, kinds := [], alts := [], laidByText := true, laidKinds := [.data, .pinned], laidTests := true, laidLooks := .later }
def PercentNormalUptoCardSaid : Prop := Claim7.holds Tryd.pinned (.plain (OpenSpec.upto percentNormalSpec)) percentNormalUptoCard

/-- THE SECOND FORM's CARD OF 'muslinlaw08.SchemesFilters'. -/
def schemesFiltersUptoCard : Claim7 := { stood := { row := schemesFiltersUptoRow, standIns := [], harness := (true, "371ac0ccf9492122f9d8bbe6f9c9ec9f932291ee2950c7d97f9161ea74c5bf59"), looks := false }, kinds := [], alts := [], laidByText := true, laidKinds := [.data, .pinned], laidTests := true, laidLooks := .later }
def SchemesFiltersUptoCardSaid : Prop := Claim7.holds Tryd.pinned (.plain (OpenSpec.upto schemesFiltersSpec)) schemesFiltersUptoCard

/-- THE SECOND FORM's CARD OF 'muslinlaw08.SchemesHidden'. -/
def schemesHiddenUptoCard : Claim7 := { stood := { row := schemesHiddenUptoRow, standIns := [], harness := (true, "371ac0ccf9492122f9d8bbe6f9c9ec9f932291ee2950c7d97f9161ea74c5bf59"), looks := false }, kinds := [], alts := [], laidByText := true, laidKinds := [.data, .pinned], laidTests := true, laidLooks := .later }
def SchemesHiddenUptoCardSaid : Prop := Claim7.holds Tryd.pinned (.plain (OpenSpec.upto schemesHiddenSpec)) schemesHiddenUptoCard

/-- THE SECOND FORM's CARD OF 'muslinlaw08.SchemesTells'. -/
def schemesTellsUptoCard : Claim7 := { stood := { row := schemesTellsUptoRow, standIns := [], harness := (true, "371ac0ccf9492122f9d8bbe6f9c9ec9f932291ee2950c7d97f9161ea74c5bf59"), looks := false }, kinds := [], alts := [], laidByText := true, laidKinds := [.data, .pinned], laidTests := true, laidLooks := .later }
def SchemesTellsUptoCardSaid : Prop := Claim7.holds Tryd.pinned (.plain (OpenSpec.upto schemesTellsSpec)) schemesTellsUptoCard

/-- THE SECOND FORM's CARD OF 'muslinlaw40.UrlpartsPairs'. -/
def urlpartsPairsUptoCard : Claim7 := { stood := { row := urlpartsPairsUptoRow, standIns := [], harness := (true, "371ac0ccf9492122f9d8bbe6f9c9ec9f932291ee2950c7d97f9161ea74c5bf59"), looks := false }, kinds := [], alts := [], laidByText := true, laidKinds := [.data, .pinned], laidTests := true, laidLooks := .later }
def UrlpartsPairsUptoCardSaid : Prop := Claim7.holds Tryd.pinned (.plain (OpenSpec.upto urlpartsPairsSpec)) urlpartsPairsUptoCard

/-- THE SECOND FORM's CARD OF 'muslinlaw11.TablesScripts'. -/
def tablesScriptsUptoCard : Claim7 := { stood := { row := tablesScriptsUptoRow, standIns := [], harness := (true, "371ac0ccf9492122f9d8bbe6f9c9ec9f932291ee2950c7d97f9161ea74c5bf59"), looks := false }, kinds := [], alts := [], laidByText := true, laidKinds := [.listed, .data], laidTests := true, laidLooks := .later }
def TablesScriptsUptoCardSaid : Prop := Claim7.holds Tryd.pinned (.plain (OpenSpec.upto tablesScriptsSpec)) tablesScriptsUptoCard

/-- THE SECOND FORM's CARD OF 'muslinlaw11.TablesTells'. -/
def tablesTellsUptoCard : Claim7 := { stood := { row := tablesTellsUptoRow, standIns := [], harness := (true, "371ac0ccf9492122f9d8bbe6f9c9ec9f932291ee2950c7d97f9161ea74c5bf59"), looks := false }, kinds := [], alts := [], laidByText := true, laidKinds := [.listed, .data], laidTests := true, laidLooks := .later }
def TablesTellsUptoCardSaid : Prop := Claim7.holds Tryd.pinned (.plain (OpenSpec.upto tablesTellsSpec)) tablesTellsUptoCard

/-- THE SECOND FORM's CARD OF 'muslinlaw11.TablesOwn'. -/
def tablesOwnUptoCard : Claim7 := { stood := { row := tablesOwnUptoRow, standIns := [], harness := (true, "371ac0ccf9492122f9d8bbe6f9c9ec9f932291ee2950c7d97f9161ea74c5bf59"), looks := false }, kinds := [], alts := [], laidByText := true, laidKinds := [.listed, .data], laidTests := true, laidLooks := .later }
def TablesOwnUptoCardSaid : Prop := Claim7.holds Tryd.pinned (.plain (OpenSpec.upto tablesOwnSpec)) tablesOwnUptoCard

/-- THE SECOND FORM's CARD OF 'muslinlaw09.JstextParts'. -/
def jstextPartsUptoCard : Claim7 := { stood := { row := jstextPartsUptoRow, standIns := [], harness := (true, "371ac0ccf9492122f9d8bbe6f9c9ec9f932291ee2950c7d97f9161ea74c5bf59"), looks := false }, kinds := [], alts := [], laidByText := true, laidKinds := [.data, .pinned], laidTests := true, laidLooks := .later }
def JstextPartsUptoCardSaid : Prop := Claim7.holds Tryd.pinned (.plain (OpenSpec.upto jstextPartsSpec)) jstextPartsUptoCard

/-- THE SECOND FORM's CARD OF 'muslinlaw09.JstextEnds'. -/
def jstextEndsUptoCard : Claim7 := { stood := { row := jstextEndsUptoRow, standIns := [], harness := (true, "371ac0ccf9492122f9d8bbe6f9c9ec9f932291ee2950c7d97f9161ea74c5bf59"), looks := false }, kinds := [], alts := [], laidByText := true, laidKinds := [.data, .pinned], laidTests := true, laidLooks := .later }
def JstextEndsUptoCardSaid : Prop := Claim7.holds Tryd.pinned (.plain (OpenSpec.upto jstextEndsSpec)) jstextEndsUptoCard

/-- THE SECOND FORM's CARD OF 'muslinlaw09.JstextBack'. -/
def jstextBackUptoCard : Claim7 := { stood := { row := jstextBackUptoRow, standIns := [], harness := (true, "371ac0ccf9492122f9d8bbe6f9c9ec9f932291ee2950c7d97f9161ea74c5bf59"), looks := false }, kinds := [], alts := [], laidByText := true, laidKinds := [.data, .pinned], laidTests := true, laidLooks := .later }
def JstextBackUptoCardSaid : Prop := Claim7.holds Tryd.pinned (.plain (OpenSpec.upto jstextBackSpec)) jstextBackUptoCard
end Rows
end Go.Proofs.YtbcbbeenkndgcaaDoor
