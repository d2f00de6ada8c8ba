/-
  NARROWER THAN 'FOR EVERY INPUT', by the rows' own cells (each row's printed sentence says how): PercentBack: laid · PercentParts: laid · PercentNormal: laid · SchemesFilters: laid · SchemesHidden: laid · SchemesTells: laid · UrlpartsPairs: laid · TablesScripts: laid · TablesTells: laid · TablesOwn: laid · JstextParts: laid · JstextEnds: laid · JstextBack: laid.
  DERIVED. THE GIVEN ROWS OF THIS SEAT. 13 by the template 'for every input the law returns true; each argument reads behind the call as it read before'; 0 by the template 'total and deterministic' (their statements: YtbcbbeenkndgcaaDoorTotals.lean).
  GIVEN WITH THE SEED: the statements are not yours to turn. If you find one false, say at which input.
  Laid BY PROGRAM, IN A SANDBOX (cutbox-rows.mjs): the forced cells as the released guide's own fill.sh prints them over the translation c0ba7f97dad74d41… (all of the seat's roots in one cut). By AI agents, Wed Nov 11 2026. No macro, syntax, notation, axiom, sorry.
-/
import Derived.Test.YtbcbbeenkndgcaaDoorChecked
import GoSem.PinnedTables
import GoSem.Claim
import GoSem.ClaimJoined
import GoSem.ClaimMapViews
import Derived.JoinedTies
import Derived.KernelRfl
namespace Go.Proofs.YtbcbbeenkndgcaaDoor
/- THE CELL 'sum', in the pinned program and in every row, IS THE sha256 OF THE DUMP (.gsa) THAT YtbcbbeenkndgcaaDoorProg.lean LOADS. Nothing in Lean hashes anything: it is a label: what it is worth is what the hold of that sum in a sandbox is worth. -/
noncomputable def Tryd.pinned : Pinned := { name := "ytbcbbeenkndgcaadoor", sum := "c0ba7f97dad74d4103166f1b6f148cb3d9be8b75133cdd1927f8e1adade71d9e", checked := Tryd.checked }
namespace Rows
def none {H : Type} : Left H := { results := [], args := [] }

/- WHAT THE LISTED PACKAGE-LEVEL VARIABLES READ AS WHEN THE CALL BEGINS. Each datum BY PROGRAM (the guide's laid-datum.mjs) off the statement by which the dump's own 'gosem.cut.vars' lays the variable. In a bare row this is a premise. The card (YtbcbbeenkndgcaaDoorCards.lean) ties it to the program's text. -/
def laid_unicode_utf8_acceptRanges {H : Type} : DataW H := .agg [.agg [.lit (.int .u8 128), .lit (.int .u8 191)], .agg [.lit (.int .u8 160), .lit (.int .u8 191)], .agg [.lit (.int .u8 128), .lit (.int .u8 159)], .agg [.lit (.int .u8 144), .lit (.int .u8 191)], .agg [.lit (.int .u8 128), .lit (.int .u8 143)], .agg [.lit (.int .u8 0), .lit (.int .u8 0)], .agg [.lit (.int .u8 0), .lit (.int .u8 0)], .agg [.lit (.int .u8 0), .lit (.int .u8 0)], .agg [.lit (.int .u8 0), .lit (.int .u8 0)], .agg [.lit (.int .u8 0), .lit (.int .u8 0)], .agg [.lit (.int .u8 0), .lit (.int .u8 0)], .agg [.lit (.int .u8 0), .lit (.int .u8 0)], .agg [.lit (.int .u8 0), .lit (.int .u8 0)], .agg [.lit (.int .u8 0), .lit (.int .u8 0)], .agg [.lit (.int .u8 0), .lit (.int .u8 0)], .agg [.lit (.int .u8 0), .lit (.int .u8 0)]]
/-- One of Go's own tables, pinned by name: the form's constant. -/
def laid_unicode_utf8_first : DataW Unit := Go.Pinned.utf8First
def laid_unicode_White_Space {H : Type} : DataW H := .ptr (.agg [.slice [.agg [.lit (.int .u16 9), .lit (.int .u16 13), .lit (.int .u16 1)], .agg [.lit (.int .u16 32), .lit (.int .u16 133), .lit (.int .u16 101)], .agg [.lit (.int .u16 160), .lit (.int .u16 5760), .lit (.int .u16 5600)], .agg [.lit (.int .u16 8192), .lit (.int .u16 8202), .lit (.int .u16 1)], .agg [.lit (.int .u16 8232), .lit (.int .u16 8233), .lit (.int .u16 1)], .agg [.lit (.int .u16 8239), .lit (.int .u16 8287), .lit (.int .u16 48)], .agg [.lit (.int .u16 12288), .lit (.int .u16 12288), .lit (.int .u16 1)]] [], .nil, .lit (.int .i64 2)])
def laid_strings_asciiSpace {H : Type} : DataW H := .agg [.lit (.int .u8 0), .lit (.int .u8 0), .lit (.int .u8 0), .lit (.int .u8 0), .lit (.int .u8 0), .lit (.int .u8 0), .lit (.int .u8 0), .lit (.int .u8 0), .lit (.int .u8 0), .lit (.int .u8 1), .lit (.int .u8 1), .lit (.int .u8 1), .lit (.int .u8 1), .lit (.int .u8 1), .lit (.int .u8 0), .lit (.int .u8 0), .lit (.int .u8 0), .lit (.int .u8 0), .lit (.int .u8 0), .lit (.int .u8 0), .lit (.int .u8 0), .lit (.int .u8 0), .lit (.int .u8 0), .lit (.int .u8 0), .lit (.int .u8 0), .lit (.int .u8 0), .lit (.int .u8 0), .lit (.int .u8 0), .lit (.int .u8 0), .lit (.int .u8 0), .lit (.int .u8 0), .lit (.int .u8 0), .lit (.int .u8 1), .lit (.int .u8 0), .lit (.int .u8 0), .lit (.int .u8 0), .lit (.int .u8 0), .lit (.int .u8 0), .lit (.int .u8 0), .lit (.int .u8 0), .lit (.int .u8 0), .lit (.int .u8 0), .lit (.int .u8 0), .lit (.int .u8 0), .lit (.int .u8 0), .lit (.int .u8 0), .lit (.int .u8 0), .lit (.int .u8 0), .lit (.int .u8 0), .lit (.int .u8 0), .lit (.int .u8 0), .lit (.int .u8 0), .lit (.int .u8 0), .lit (.int .u8 0), .lit (.int .u8 0), .lit (.int .u8 0), .lit (.int .u8 0), .lit (.int .u8 0), .lit (.int .u8 0), .lit (.int .u8 0), .lit (.int .u8 0), .lit (.int .u8 0), .lit (.int .u8 0), .lit (.int .u8 0), .lit (.int .u8 0), .lit (.int .u8 0), .lit (.int .u8 0), .lit (.int .u8 0), .lit (.int .u8 0), .lit (.int .u8 0), .lit (.int .u8 0), .lit (.int .u8 0), .lit (.int .u8 0), .lit (.int .u8 0), .lit (.int .u8 0), .lit (.int .u8 0), .lit (.int .u8 0), .lit (.int .u8 0), .lit (.int .u8 0), .lit (.int .u8 0), .lit (.int .u8 0), .lit (.int .u8 0), .lit (.int .u8 0), .lit (.int .u8 0), .lit (.int .u8 0), .lit (.int .u8 0), .lit (.int .u8 0), .lit (.int .u8 0), .lit (.int .u8 0), .lit (.int .u8 0), .lit (.int .u8 0), .lit (.int .u8 0), .lit (.int .u8 0), .lit (.int .u8 0), .lit (.int .u8 0), .lit (.int .u8 0), .lit (.int .u8 0), .lit (.int .u8 0), .lit (.int .u8 0), .lit (.int .u8 0), .lit (.int .u8 0), .lit (.int .u8 0), .lit (.int .u8 0), .lit (.int .u8 0), .lit (.int .u8 0), .lit (.int .u8 0), .lit (.int .u8 0), .lit (.int .u8 0), .lit (.int .u8 0), .lit (.int .u8 0), .lit (.int .u8 0), .lit (.int .u8 0), .lit (.int .u8 0), .lit (.int .u8 0), .lit (.int .u8 0), .lit (.int .u8 0), .lit (.int .u8 0), .lit (.int .u8 0), .lit (.int .u8 0), .lit (.int .u8 0), .lit (.int .u8 0), .lit (.int .u8 0), .lit (.int .u8 0), .lit (.int .u8 0), .lit (.int .u8 0), .lit (.int .u8 0), .lit (.int .u8 0), .lit (.int .u8 0), .lit (.int .u8 0), .lit (.int .u8 0), .lit (.int .u8 0), .lit (.int .u8 0), .lit (.int .u8 0), .lit (.int .u8 0), .lit (.int .u8 0), .lit (.int .u8 0), .lit (.int .u8 0), .lit (.int .u8 0), .lit (.int .u8 0), .lit (.int .u8 0), .lit (.int .u8 0), .lit (.int .u8 0), .lit (.int .u8 0), .lit (.int .u8 0), .lit (.int .u8 0), .lit (.int .u8 0), .lit (.int .u8 0), .lit (.int .u8 0), .lit (.int .u8 0), .lit (.int .u8 0), .lit (.int .u8 0), .lit (.int .u8 0), .lit (.int .u8 0), .lit (.int .u8 0), .lit (.int .u8 0), .lit (.int .u8 0), .lit (.int .u8 0), .lit (.int .u8 0), .lit (.int .u8 0), .lit (.int .u8 0), .lit (.int .u8 0), .lit (.int .u8 0), .lit (.int .u8 0), .lit (.int .u8 0), .lit (.int .u8 0), .lit (.int .u8 0), .lit (.int .u8 0), .lit (.int .u8 0), .lit (.int .u8 0), .lit (.int .u8 0), .lit (.int .u8 0), .lit (.int .u8 0), .lit (.int .u8 0), .lit (.int .u8 0), .lit (.int .u8 0), .lit (.int .u8 0), .lit (.int .u8 0), .lit (.int .u8 0), .lit (.int .u8 0), .lit (.int .u8 0), .lit (.int .u8 0), .lit (.int .u8 0), .lit (.int .u8 0), .lit (.int .u8 0), .lit (.int .u8 0), .lit (.int .u8 0), .lit (.int .u8 0), .lit (.int .u8 0), .lit (.int .u8 0), .lit (.int .u8 0), .lit (.int .u8 0), .lit (.int .u8 0), .lit (.int .u8 0), .lit (.int .u8 0), .lit (.int .u8 0), .lit (.int .u8 0), .lit (.int .u8 0), .lit (.int .u8 0), .lit (.int .u8 0), .lit (.int .u8 0), .lit (.int .u8 0), .lit (.int .u8 0), .lit (.int .u8 0), .lit (.int .u8 0), .lit (.int .u8 0), .lit (.int .u8 0), .lit (.int .u8 0), .lit (.int .u8 0), .lit (.int .u8 0), .lit (.int .u8 0), .lit (.int .u8 0), .lit (.int .u8 0), .lit (.int .u8 0), .lit (.int .u8 0), .lit (.int .u8 0), .lit (.int .u8 0), .lit (.int .u8 0), .lit (.int .u8 0), .lit (.int .u8 0), .lit (.int .u8 0), .lit (.int .u8 0), .lit (.int .u8 0), .lit (.int .u8 0), .lit (.int .u8 0), .lit (.int .u8 0), .lit (.int .u8 0), .lit (.int .u8 0), .lit (.int .u8 0), .lit (.int .u8 0), .lit (.int .u8 0), .lit (.int .u8 0), .lit (.int .u8 0), .lit (.int .u8 0), .lit (.int .u8 0), .lit (.int .u8 0), .lit (.int .u8 0), .lit (.int .u8 0), .lit (.int .u8 0), .lit (.int .u8 0), .lit (.int .u8 0), .lit (.int .u8 0), .lit (.int .u8 0), .lit (.int .u8 0), .lit (.int .u8 0), .lit (.int .u8 0), .lit (.int .u8 0), .lit (.int .u8 0), .lit (.int .u8 0), .lit (.int .u8 0), .lit (.int .u8 0), .lit (.int .u8 0), .lit (.int .u8 0), .lit (.int .u8 0), .lit (.int .u8 0), .lit (.int .u8 0), .lit (.int .u8 0)]

/-- 'muslinlaw07.PercentBack': WHATEVER THE INPUT: true; the input reads as it did. -/
def percentBackSpec : ChangeSpec := { name := "percentBack", fn := fun _ => fun
  | [d] => { results := [.lit (.bool true)], args := [d] }
  | _ => none }
def percentBackRow : OpenClaim := { program := "ytbcbbeenkndgcaadoor", sum := "c0ba7f97dad74d4103166f1b6f148cb3d9be8b75133cdd1927f8e1adade71d9e", func := "muslin/muslinlaw07.PercentBack", spec := "percentBack", inPlace := ["internal/abi.NoEscape", "internal/bytealg.IndexByteString"], unfollowed := true, recurses := true, named := ["unicode/utf8.first", "unicode/utf8.acceptRanges"], apart := false, laid := [("unicode/utf8.acceptRanges", laid_unicode_utf8_acceptRanges), ("unicode/utf8.first", laid_unicode_utf8_first)] }
def PercentBackSaid : Prop := percentBackRow.holds Tryd.pinned (OpenSpec.ofChange percentBackSpec)

/-- ITS FALSE NEIGHBOUR: 'it returns false'. Refute it at one input. -/
def percentBackWrong : ChangeSpec := { name := "percentBack", fn := fun _ => fun
  | [d] => { results := [.lit (.bool false)], args := [d] }
  | _ => none }
def PercentBackWrongFalsely : Prop := percentBackRow.holds Tryd.pinned (OpenSpec.ofChange percentBackWrong)

/-- 'muslinlaw07.PercentParts': WHATEVER THE INPUT: true; the input reads as it did. -/
def percentPartsSpec : ChangeSpec := { name := "percentParts", fn := fun _ => fun
  | [d1, d2] => { results := [.lit (.bool true)], args := [d1, d2] }
  | _ => none }
def percentPartsRow : OpenClaim := { program := "ytbcbbeenkndgcaadoor", sum := "c0ba7f97dad74d4103166f1b6f148cb3d9be8b75133cdd1927f8e1adade71d9e", func := "muslin/muslinlaw07.PercentParts", spec := "percentParts", inPlace := ["internal/abi.NoEscape", "internal/bytealg.IndexByteString"], unfollowed := true, recurses := true, named := ["unicode/utf8.first", "unicode/utf8.acceptRanges"], apart := false, laid := [("unicode/utf8.acceptRanges", laid_unicode_utf8_acceptRanges), ("unicode/utf8.first", laid_unicode_utf8_first)] }
def PercentPartsSaid : Prop := percentPartsRow.holds Tryd.pinned (OpenSpec.ofChange percentPartsSpec)

/-- ITS FALSE NEIGHBOUR: 'it returns false'. Refute it at one input. -/
def percentPartsWrong : ChangeSpec := { name := "percentParts", fn := fun _ => fun
  | [d1, d2] => { results := [.lit (.bool false)], args := [d1, d2] }
  | _ => none }
def PercentPartsWrongFalsely : Prop := percentPartsRow.holds Tryd.pinned (OpenSpec.ofChange percentPartsWrong)

/-- 'muslinlaw07.PercentNormal': WHATEVER THE INPUT: true; the input reads as it did. -/
def percentNormalSpec : ChangeSpec := { name := "percentNormal", fn := fun _ => fun
  | [d] => { results := [.lit (.bool true)], args := [d] }
  | _ => none }
def percentNormalRow : OpenClaim := { program := "ytbcbbeenkndgcaadoor", sum := "c0ba7f97dad74d4103166f1b6f148cb3d9be8b75133cdd1927f8e1adade71d9e", func := "muslin/muslinlaw07.PercentNormal", spec := "percentNormal", inPlace := ["internal/abi.NoEscape", "internal/bytealg.IndexByteString"], unfollowed := true, recurses := true, named := ["unicode/utf8.first", "unicode/utf8.acceptRanges"], apart := false, laid := [("unicode/utf8.acceptRanges", laid_unicode_utf8_acceptRanges), ("unicode/utf8.first", laid_unicode_utf8_first)] }
def PercentNormalSaid : Prop := percentNormalRow.holds Tryd.pinned (OpenSpec.ofChange percentNormalSpec)

/-- ITS FALSE NEIGHBOUR: 'it returns false'. Refute it at one input. -/
def percentNormalWrong : ChangeSpec := { name := "percentNormal", fn := fun _ => fun
  | [d] => { results := [.lit (.bool false)], args := [d] }
  | _ => none }
def PercentNormalWrongFalsely : Prop := percentNormalRow.holds Tryd.pinned (OpenSpec.ofChange percentNormalWrong)

/-- 'muslinlaw08.SchemesFilters': WHATEVER THE INPUT: true; the input reads as it did. -/
def schemesFiltersSpec : ChangeSpec := { name := "schemesFilters", fn := fun _ => fun
  | [d] => { results := [.lit (.bool true)], args := [d] }
  | _ => none }
def schemesFiltersRow : OpenClaim := { program := "ytbcbbeenkndgcaadoor", sum := "c0ba7f97dad74d4103166f1b6f148cb3d9be8b75133cdd1927f8e1adade71d9e", func := "muslin/muslinlaw08.SchemesFilters", spec := "schemesFilters", inPlace := ["internal/bytealg.IndexByteString", "internal/abi.NoEscape"], unfollowed := true, recurses := true, named := ["unicode/utf8.first", "unicode/utf8.acceptRanges"], apart := false, laid := [("unicode/utf8.acceptRanges", laid_unicode_utf8_acceptRanges), ("unicode/utf8.first", laid_unicode_utf8_first)] }
def SchemesFiltersSaid : Prop := schemesFiltersRow.holds Tryd.pinned (OpenSpec.ofChange schemesFiltersSpec)

/-- ITS FALSE NEIGHBOUR: 'it returns false'. Refute it at one input. -/
def schemesFiltersWrong : ChangeSpec := { name := "schemesFilters", fn := fun _ => fun
  | [d] => { results := [.lit (.bool false)], args := [d] }
  | _ => none }
def SchemesFiltersWrongFalsely : Prop := schemesFiltersRow.holds Tryd.pinned (OpenSpec.ofChange schemesFiltersWrong)

/-- 'muslinlaw08.SchemesHidden': WHATEVER THE INPUT: true; the input reads as it did. -/
def schemesHiddenSpec : ChangeSpec := { name := "schemesHidden", fn := fun _ => fun
  | [d1, d2] => { results := [.lit (.bool true)], args := [d1, d2] }
  | _ => none }
def schemesHiddenRow : OpenClaim := { program := "ytbcbbeenkndgcaadoor", sum := "c0ba7f97dad74d4103166f1b6f148cb3d9be8b75133cdd1927f8e1adade71d9e", func := "muslin/muslinlaw08.SchemesHidden", spec := "schemesHidden", inPlace := ["internal/bytealg.IndexByteString", "internal/abi.NoEscape"], unfollowed := true, recurses := true, named := ["unicode/utf8.first", "unicode/utf8.acceptRanges"], apart := false, laid := [("unicode/utf8.acceptRanges", laid_unicode_utf8_acceptRanges), ("unicode/utf8.first", laid_unicode_utf8_first)] }
def SchemesHiddenSaid : Prop := schemesHiddenRow.holds Tryd.pinned (OpenSpec.ofChange schemesHiddenSpec)

/-- ITS FALSE NEIGHBOUR: 'it returns false'. Refute it at one input. -/
def schemesHiddenWrong : ChangeSpec := { name := "schemesHidden", fn := fun _ => fun
  | [d1, d2] => { results := [.lit (.bool false)], args := [d1, d2] }
  | _ => none }
def SchemesHiddenWrongFalsely : Prop := schemesHiddenRow.holds Tryd.pinned (OpenSpec.ofChange schemesHiddenWrong)

/-- 'muslinlaw08.SchemesTells': WHATEVER THE INPUT: true; the input reads as it did. -/
def schemesTellsSpec : ChangeSpec := { name := "schemesTells", fn := fun _ => fun
  | [d1, d2] => { results := [.lit (.bool true)], args := [d1, d2] }
  | _ => none }
def schemesTellsRow : OpenClaim := { program := "ytbcbbeenkndgcaadoor", sum := "c0ba7f97dad74d4103166f1b6f148cb3d9be8b75133cdd1927f8e1adade71d9e", func := "muslin/muslinlaw08.SchemesTells", spec := "schemesTells", inPlace := ["internal/bytealg.IndexByteString", "internal/abi.NoEscape"], unfollowed := true, recurses := true, named := ["unicode/utf8.first", "unicode/utf8.acceptRanges"], apart := false, laid := [("unicode/utf8.acceptRanges", laid_unicode_utf8_acceptRanges), ("unicode/utf8.first", laid_unicode_utf8_first)] }
def SchemesTellsSaid : Prop := schemesTellsRow.holds Tryd.pinned (OpenSpec.ofChange schemesTellsSpec)

/-- ITS FALSE NEIGHBOUR: 'it returns false'. Refute it at one input. -/
def schemesTellsWrong : ChangeSpec := { name := "schemesTells", fn := fun _ => fun
  | [d1, d2] => { results := [.lit (.bool false)], args := [d1, d2] }
  | _ => none }
def SchemesTellsWrongFalsely : Prop := schemesTellsRow.holds Tryd.pinned (OpenSpec.ofChange schemesTellsWrong)

/-- 'muslinlaw40.UrlpartsPairs': WHATEVER THE INPUT: true; the input reads as it did. -/
def urlpartsPairsSpec : ChangeSpec := { name := "urlpartsPairs", fn := fun _ => fun
  | [d] => { results := [.lit (.bool true)], args := [d] }
  | _ => none }
def urlpartsPairsRow : OpenClaim := { program := "ytbcbbeenkndgcaadoor", sum := "c0ba7f97dad74d4103166f1b6f148cb3d9be8b75133cdd1927f8e1adade71d9e", func := "muslin/muslinlaw40.UrlpartsPairs", spec := "urlpartsPairs", inPlace := ["internal/bytealg.IndexByteString", "internal/bytealg.IndexString", "internal/abi.NoEscape", "internal/bytealg.MakeNoZero"], unfollowed := true, recurses := true, named := ["internal/bytealg.MaxLen", "unicode/utf8.first", "unicode/utf8.acceptRanges"], apart := false, laid := [("unicode/utf8.acceptRanges", laid_unicode_utf8_acceptRanges), ("unicode/utf8.first", laid_unicode_utf8_first)] }
def UrlpartsPairsSaid : Prop := urlpartsPairsRow.holds Tryd.pinned (OpenSpec.ofChange urlpartsPairsSpec)

/-- ITS FALSE NEIGHBOUR: 'it returns false'. Refute it at one input. -/
def urlpartsPairsWrong : ChangeSpec := { name := "urlpartsPairs", fn := fun _ => fun
  | [d] => { results := [.lit (.bool false)], args := [d] }
  | _ => none }
def UrlpartsPairsWrongFalsely : Prop := urlpartsPairsRow.holds Tryd.pinned (OpenSpec.ofChange urlpartsPairsWrong)

/-- 'muslinlaw11.TablesScripts': WHATEVER THE INPUT: true; the input reads as it did. -/
def tablesScriptsSpec : ChangeSpec := { name := "tablesScripts", fn := fun _ => fun
  | [d1, d2] => { results := [.lit (.bool true)], args := [d1, d2] }
  | _ => none }
def tablesScriptsRow : OpenClaim := { program := "ytbcbbeenkndgcaadoor", sum := "c0ba7f97dad74d4103166f1b6f148cb3d9be8b75133cdd1927f8e1adade71d9e", func := "muslin/muslinlaw11.TablesScripts", spec := "tablesScripts", unfollowed := true, recurses := true, named := ["strings.asciiSpace", "unicode.White_Space"], apart := false, laid := [("unicode.White_Space", laid_unicode_White_Space), ("strings.asciiSpace", laid_strings_asciiSpace)] }
def TablesScriptsSaid : Prop := tablesScriptsRow.holds Tryd.pinned (OpenSpec.ofChange tablesScriptsSpec)

/-- ITS FALSE NEIGHBOUR: 'it returns false'. Refute it at one input. -/
def tablesScriptsWrong : ChangeSpec := { name := "tablesScripts", fn := fun _ => fun
  | [d1, d2] => { results := [.lit (.bool false)], args := [d1, d2] }
  | _ => none }
def TablesScriptsWrongFalsely : Prop := tablesScriptsRow.holds Tryd.pinned (OpenSpec.ofChange tablesScriptsWrong)

/-- 'muslinlaw11.TablesTells': WHATEVER THE INPUT: true; the input reads as it did. -/
def tablesTellsSpec : ChangeSpec := { name := "tablesTells", fn := fun _ => fun
  | [d1, d2] => { results := [.lit (.bool true)], args := [d1, d2] }
  | _ => none }
def tablesTellsRow : OpenClaim := { program := "ytbcbbeenkndgcaadoor", sum := "c0ba7f97dad74d4103166f1b6f148cb3d9be8b75133cdd1927f8e1adade71d9e", func := "muslin/muslinlaw11.TablesTells", spec := "tablesTells", unfollowed := true, recurses := true, named := ["strings.asciiSpace", "unicode.White_Space"], apart := false, laid := [("unicode.White_Space", laid_unicode_White_Space), ("strings.asciiSpace", laid_strings_asciiSpace)] }
def TablesTellsSaid : Prop := tablesTellsRow.holds Tryd.pinned (OpenSpec.ofChange tablesTellsSpec)

/-- ITS FALSE NEIGHBOUR: 'it returns false'. Refute it at one input. -/
def tablesTellsWrong : ChangeSpec := { name := "tablesTells", fn := fun _ => fun
  | [d1, d2] => { results := [.lit (.bool false)], args := [d1, d2] }
  | _ => none }
def TablesTellsWrongFalsely : Prop := tablesTellsRow.holds Tryd.pinned (OpenSpec.ofChange tablesTellsWrong)

/-- 'muslinlaw11.TablesOwn': WHATEVER THE INPUT: true; the input reads as it did. -/
def tablesOwnSpec : ChangeSpec := { name := "tablesOwn", fn := fun _ => fun
  | [d] => { results := [.lit (.bool true)], args := [d] }
  | _ => none }
def tablesOwnRow : OpenClaim := { program := "ytbcbbeenkndgcaadoor", sum := "c0ba7f97dad74d4103166f1b6f148cb3d9be8b75133cdd1927f8e1adade71d9e", func := "muslin/muslinlaw11.TablesOwn", spec := "tablesOwn", unfollowed := true, recurses := true, named := ["strings.asciiSpace", "unicode.White_Space"], apart := false, laid := [("unicode.White_Space", laid_unicode_White_Space), ("strings.asciiSpace", laid_strings_asciiSpace)] }
def TablesOwnSaid : Prop := tablesOwnRow.holds Tryd.pinned (OpenSpec.ofChange tablesOwnSpec)

/-- ITS FALSE NEIGHBOUR: 'it returns false'. Refute it at one input. -/
def tablesOwnWrong : ChangeSpec := { name := "tablesOwn", fn := fun _ => fun
  | [d] => { results := [.lit (.bool false)], args := [d] }
  | _ => none }
def TablesOwnWrongFalsely : Prop := tablesOwnRow.holds Tryd.pinned (OpenSpec.ofChange tablesOwnWrong)

/-- 'muslinlaw09.JstextParts': WHATEVER THE INPUT: true; the input reads as it did. -/
def jstextPartsSpec : ChangeSpec := { name := "jstextParts", fn := fun _ => fun
  | [d1, d2] => { results := [.lit (.bool true)], args := [d1, d2] }
  | _ => none }
def jstextPartsRow : OpenClaim := { program := "ytbcbbeenkndgcaadoor", sum := "c0ba7f97dad74d4103166f1b6f148cb3d9be8b75133cdd1927f8e1adade71d9e", func := "muslin/muslinlaw09.JstextParts", spec := "jstextParts", inPlace := ["internal/bytealg.IndexByteString", "internal/abi.NoEscape"], unfollowed := true, recurses := true, named := ["unicode/utf8.first", "unicode/utf8.acceptRanges"], apart := false, laid := [("unicode/utf8.acceptRanges", laid_unicode_utf8_acceptRanges), ("unicode/utf8.first", laid_unicode_utf8_first)] }
def JstextPartsSaid : Prop := jstextPartsRow.holds Tryd.pinned (OpenSpec.ofChange jstextPartsSpec)

/-- ITS FALSE NEIGHBOUR: 'it returns false'. Refute it at one input. -/
def jstextPartsWrong : ChangeSpec := { name := "jstextParts", fn := fun _ => fun
  | [d1, d2] => { results := [.lit (.bool false)], args := [d1, d2] }
  | _ => none }
def JstextPartsWrongFalsely : Prop := jstextPartsRow.holds Tryd.pinned (OpenSpec.ofChange jstextPartsWrong)

/-- 'muslinlaw09.JstextEnds': WHATEVER THE INPUT: true; the input reads as it did. -/
def jstextEndsSpec : ChangeSpec := { name := "jstextEnds", fn := fun _ => fun
  | [d] => { results := [.lit (.bool true)], args := [d] }
  | _ => none }
def jstextEndsRow : OpenClaim := { program := "ytbcbbeenkndgcaadoor", sum := "c0ba7f97dad74d4103166f1b6f148cb3d9be8b75133cdd1927f8e1adade71d9e", func := "muslin/muslinlaw09.JstextEnds", spec := "jstextEnds", inPlace := ["internal/bytealg.IndexByteString", "internal/abi.NoEscape"], unfollowed := true, recurses := true, named := ["unicode/utf8.first", "unicode/utf8.acceptRanges"], apart := false, laid := [("unicode/utf8.acceptRanges", laid_unicode_utf8_acceptRanges), ("unicode/utf8.first", laid_unicode_utf8_first)] }
def JstextEndsSaid : Prop := jstextEndsRow.holds Tryd.pinned (OpenSpec.ofChange jstextEndsSpec)

/-- ITS FALSE NEIGHBOUR: 'it returns false'. Refute it at one input. -/
def jstextEndsWrong : ChangeSpec := { name := "jstextEnds", fn := fun _ => fun
  | [d] => { results := [.lit (.bool false)], args := [d] }
  | _ => none }
def JstextEndsWrongFalsely : Prop := jstextEndsRow.holds Tryd.pinned (OpenSpec.ofChange jstextEndsWrong)

/-- 'muslinlaw09.JstextBack': WHATEVER THE INPUT: true; the input reads as it did. -/
def jstextBackSpec : ChangeSpec := { name := "jstextBack", fn := fun _ => fun
  | [d] => { results := [.lit (.bool true)], args := [d] }
  | _ => none }
def jstextBackRow : OpenClaim := { program := "ytbcbbeenkndgcaadoor", sum := "c0ba7f97dad74d4103166f1b6f148cb3d9be8b75133cdd1927f8e1adade71d9e", func := "muslin/muslinlaw09.JstextBack", spec := "jstextBack", inPlace := ["internal/abi.NoEscape", "internal/bytealg.IndexByteString"], unfollowed := true, recurses := true, named := ["unicode/utf8.first", "unicode/utf8.acceptRanges"], apart := false, laid := [("unicode/utf8.acceptRanges", laid_unicode_utf8_acceptRanges), ("unicode/utf8.first", laid_unicode_utf8_first)] }
def JstextBackSaid : Prop := jstextBackRow.holds Tryd.pinned (OpenSpec.ofChange jstextBackSpec)

/-- ITS FALSE NEIGHBOUR: 'it returns false'. Refute it at one input. -/
def jstextBackWrong : ChangeSpec := { name := "jstextBack", fn := fun _ => fun
  | [d] => { results := [.lit (.bool false)], args := [d] }
  | _ => none }
def JstextBackWrongFalsely : Prop := jstextBackRow.holds Tryd.pinned (OpenSpec.ofChange jstextBackWrong)

/- THE SECOND FORM. 'bulk': how many values and letters a reading holds, each counted each time it is reached (what is shared counts as often as it is met; a slice's spare places count too). A statement '..UptoSaid' is the law's where the arguments, and the package variables that the reading takes, are together of bulk at most 1048576: NARROWER than '..Said'. Prove '..Said' where nothing that the law and all that it calls make is longer than what came in: it says more and counts as full. Else prove '..UptoSaid'. A law counts once. -/
mutual
def uptoBulk {H : Type} : DataW H → Nat
  | .lit (.string bytes) => bytes.length + 1
  | .lit _ => 1
  | .nil => 1
  | .ptr d => uptoBulk d + 1
  | .slice elems spare => uptoBulkAll elems + uptoBulkAll spare + 1
  | .agg parts => uptoBulkAll parts + 1
  | .iface _ d => uptoBulk d + 1
  | .map entries => uptoBulkEntries entries + 1
  | .held _ => 1
def uptoBulkAll {H : Type} : List (DataW H) → Nat
  | [] => 0
  | d :: r => uptoBulk d + uptoBulkAll r
def uptoBulkEntries {H : Type} : List (Lit × DataW H) → Nat
  | [] => 0
  | x :: r => uptoBulkEntry x + uptoBulkEntries r
def uptoBulkEntry {H : Type} : Lit × DataW H → Nat
  | (.string bytes, d) => bytes.length + uptoBulk d + 1
  | (_, d) => uptoBulk d + 1
 end
def uptoSmall : (H : Type) → List (DataW H) → Bool := fun _ ds => decide (uptoBulkAll ds ≤ 1048576)
def OpenSpec.upto (s : _root_.Go.ChangeSpec) : _root_.Go.OpenSpec := { _root_.Go.OpenSpec.ofChange s with cond := some uptoSmall }

/-- 'muslinlaw07.PercentBack', WHERE WHAT IT READS IS OF BULK AT MOST 1048576: true; the input reads as it did. -/
def percentBackUptoRow : OpenClaim := { program := "ytbcbbeenkndgcaadoor", sum := "c0ba7f97dad74d4103166f1b6f148cb3d9be8b75133cdd1927f8e1adade71d9e", func := "muslin/muslinlaw07.PercentBack", spec := "percentBack", inPlace := ["internal/abi.NoEscape", "internal/bytealg.IndexByteString"], unfollowed := true, recurses := true, named := ["unicode/utf8.first", "unicode/utf8.acceptRanges"], apart := false, laid := [("unicode/utf8.acceptRanges", laid_unicode_utf8_acceptRanges), ("unicode/utf8.first", laid_unicode_utf8_first)], narrowed := true }
def PercentBackUptoSaid : Prop := percentBackUptoRow.holds Tryd.pinned (OpenSpec.upto percentBackSpec)

/-- 'muslinlaw07.PercentParts', WHERE WHAT IT READS IS OF BULK AT MOST 1048576: true; the input reads as it did. -/
def percentPartsUptoRow : OpenClaim := { program := "ytbcbbeenkndgcaadoor", sum := "c0ba7f97dad74d4103166f1b6f148cb3d9be8b75133cdd1927f8e1adade71d9e", func := "muslin/muslinlaw07.PercentParts", spec := "percentParts", inPlace := ["internal/abi.NoEscape", "internal/bytealg.IndexByteString"], unfollowed := true, recurses := true, named := ["unicode/utf8.first", "unicode/utf8.acceptRanges"], apart := false, laid := [("unicode/utf8.acceptRanges", laid_unicode_utf8_acceptRanges), ("unicode/utf8.first", laid_unicode_utf8_first)], narrowed := true }
def PercentPartsUptoSaid : Prop := percentPartsUptoRow.holds Tryd.pinned (OpenSpec.upto percentPartsSpec)

/-- 'muslinlaw07.PercentNormal', WHERE WHAT IT READS IS OF BULK AT MOST 1048576: true; the input reads as it did. -/
def percentNormalUptoRow : OpenClaim := { program := "ytbcbbeenkndgcaadoor", sum := "c0ba7f97dad74d4103166f1b6f148cb3d9be8b75133cdd1927f8e1adade71d9e", func := "muslin/muslinlaw07.PercentNormal", spec := "percentNormal", inPlace := ["internal/abi.NoEscape", "internal/bytealg.IndexByteString"], unfollowed := true, recurses := true, named := ["unicode/utf8.first", "unicode/utf8.acceptRanges"], apart := false, laid := [("unicode/utf8.acceptRanges", laid_unicode_utf8_acceptRanges), ("unicode/utf8.first", laid_unicode_utf8_first)], narrowed := true }
def PercentNormalUptoSaid : Prop := percentNormalUptoRow.holds Tryd.pinned (OpenSpec.upto percentNormalSpec)

/-- 'muslinlaw08.SchemesFilters', WHERE WHAT IT READS IS OF BULK AT MOST 1048576: true; the input reads as it did. -/
def schemesFiltersUptoRow : OpenClaim := { program := "ytbcbbeenkndgcaadoor", sum := "c0ba7f97dad74d4103166f1b6f148cb3d9be8b75133cdd1927f8e1adade71d9e", func := "muslin/muslinlaw08.SchemesFilters", spec := "schemesFilters", inPlace := ["internal/bytealg.IndexByteString", "internal/abi.NoEscape"], unfollowed := true, recurses := true, named := ["unicode/utf8.first", "unicode/utf8.acceptRanges"], apart := false, laid := [("unicode/utf8.acceptRanges", laid_unicode_utf8_acceptRanges), ("unicode/utf8.first", laid_unicode_utf8_first)], narrowed := true }
def SchemesFiltersUptoSaid : Prop := schemesFiltersUptoRow.holds Tryd.pinned (OpenSpec.upto schemesFiltersSpec)

/-- 'muslinlaw08.SchemesHidden', WHERE WHAT IT READS IS OF BULK AT MOST 1048576: true; the input reads as it did. -/
def schemesHiddenUptoRow : OpenClaim := { program := "ytbcbbeenkndgcaadoor", sum := "c0ba7f97dad74d4103166f1b6f148cb3d9be8b75133cdd1927f8e1adade71d9e", func := "muslin/muslinlaw08.SchemesHidden", spec := "schemesHidden", inPlace := ["internal/bytealg.IndexByteString", "internal/abi.NoEscape"], unfollowed := true, recurses := true, named := ["unicode/utf8.first", "unicode/utf8.acceptRanges"], apart := false, laid := [("unicode/utf8.acceptRanges", laid_unicode_utf8_acceptRanges), ("unicode/utf8.first", laid_unicode_utf8_first)], narrowed := true }
def SchemesHiddenUptoSaid : Prop := schemesHiddenUptoRow.holds Tryd.pinned (OpenSpec.upto schemesHiddenSpec)

/-- 'muslinlaw08.SchemesTells', WHERE WHAT IT READS IS OF BULK AT MOST 1048576: true; the input reads as it did. -/
def schemesTellsUptoRow : OpenClaim := { program := "ytbcbbeenkndgcaadoor", sum := "c0ba7f97dad74d4103166f1b6f148cb3d9be8b75133cdd1927f8e1adade71d9e", func := "muslin/muslinlaw08.SchemesTells", spec := "schemesTells", inPlace := ["internal/bytealg.IndexByteString", "internal/abi.NoEscape"], unfollowed := true, recurses := true, named := ["unicode/utf8.first", "unicode/utf8.acceptRanges"], apart := false, laid := [("unicode/utf8.acceptRanges", laid_unicode_utf8_acceptRanges), ("unicode/utf8.first", laid_unicode_utf8_first)], narrowed := true }
def SchemesTellsUptoSaid : Prop := schemesTellsUptoRow.holds Tryd.pinned (OpenSpec.upto schemesTellsSpec)

/-- 'muslinlaw40.UrlpartsPairs', WHERE WHAT IT READS IS OF BULK AT MOST 1048576: true; the input reads as it did. -/
def urlpartsPairsUptoRow : OpenClaim := { program := "ytbcbbeenkndgcaadoor", sum := "c0ba7f97dad74d4103166f1b6f148cb3d9be8b75133cdd1927f8e1adade71d9e", func := "muslin/muslinlaw40.UrlpartsPairs", spec := "urlpartsPairs", inPlace := ["internal/bytealg.IndexByteString", "internal/bytealg.IndexString", "internal/abi.NoEscape", "internal/bytealg.MakeNoZero"], unfollowed := true, recurses := true, named := ["internal/bytealg.MaxLen", "unicode/utf8.first", "unicode/utf8.acceptRanges"], apart := false, laid := [("unicode/utf8.acceptRanges", laid_unicode_utf8_acceptRanges), ("unicode/utf8.first", laid_unicode_utf8_first)], narrowed := true }
def UrlpartsPairsUptoSaid : Prop := urlpartsPairsUptoRow.holds Tryd.pinned (OpenSpec.upto urlpartsPairsSpec)

/-- 'muslinlaw11.TablesScripts', WHERE WHAT IT READS IS OF BULK AT MOST 1048576: true; the input reads as it did. -/
def tablesScriptsUptoRow : OpenClaim := { program := "ytbcbbeenkndgcaadoor", sum := "c0ba7f97dad74d4103166f1b6f148cb3d9be8b75133cdd1927f8e1adade71d9e", func := "muslin/muslinlaw11.TablesScripts", spec := "tablesScripts", unfollowed := true, recurses := true, named := ["strings.asciiSpace", "unicode.White_Space"], apart := false, laid := [("unicode.White_Space", laid_unicode_White_Space), ("strings.asciiSpace", laid_strings_asciiSpace)], narrowed := true }
def TablesScriptsUptoSaid : Prop := tablesScriptsUptoRow.holds Tryd.pinned (OpenSpec.upto tablesScriptsSpec)

/-- 'muslinlaw11.TablesTells', WHERE WHAT IT READS IS OF BULK AT MOST 1048576: true; the input reads as it did. -/
def tablesTellsUptoRow : OpenClaim := { program := "ytbcbbeenkndgcaadoor", sum := "c0ba7f97dad74d4103166f1b6f148cb3d9be8b75133cdd1927f8e1adade71d9e", func := "muslin/muslinlaw11.TablesTells", spec := "tablesTells", unfollowed := true, recurses := true, named := ["strings.asciiSpace", "unicode.White_Space"], apart := false, laid := [("unicode.White_Space", laid_unicode_White_Space), ("strings.asciiSpace", laid_strings_asciiSpace)], narrowed := true }
def TablesTellsUptoSaid : Prop := tablesTellsUptoRow.holds Tryd.pinned (OpenSpec.upto tablesTellsSpec)

/-- 'muslinlaw11.TablesOwn', WHERE WHAT IT READS IS OF BULK AT MOST 1048576: true; the input reads as it did. -/
def tablesOwnUptoRow : OpenClaim := { program := "ytbcbbeenkndgcaadoor", sum := "c0ba7f97dad74d4103166f1b6f148cb3d9be8b75133cdd1927f8e1adade71d9e", func := "muslin/muslinlaw11.TablesOwn", spec := "tablesOwn", unfollowed := true, recurses := true, named := ["strings.asciiSpace", "unicode.White_Space"], apart := false, laid := [("unicode.White_Space", laid_unicode_White_Space), ("strings.asciiSpace", laid_strings_asciiSpace)], narrowed := true }
def TablesOwnUptoSaid : Prop := tablesOwnUptoRow.holds Tryd.pinned (OpenSpec.upto tablesOwnSpec)

/-- 'muslinlaw09.JstextParts', WHERE WHAT IT READS IS OF BULK AT MOST 1048576: true; the input reads as it did. -/
def jstextPartsUptoRow : OpenClaim := { program := "ytbcbbeenkndgcaadoor", sum := "c0ba7f97dad74d4103166f1b6f148cb3d9be8b75133cdd1927f8e1adade71d9e", func := "muslin/muslinlaw09.JstextParts", spec := "jstextParts", inPlace := ["internal/bytealg.IndexByteString", "internal/abi.NoEscape"], unfollowed := true, recurses := true, named := ["unicode/utf8.first", "unicode/utf8.acceptRanges"], apart := false, laid := [("unicode/utf8.acceptRanges", laid_unicode_utf8_acceptRanges), ("unicode/utf8.first", laid_unicode_utf8_first)], narrowed := true }
def JstextPartsUptoSaid : Prop := jstextPartsUptoRow.holds Tryd.pinned (OpenSpec.upto jstextPartsSpec)

/-- 'muslinlaw09.JstextEnds', WHERE WHAT IT READS IS OF BULK AT MOST 1048576: true; the input reads as it did. -/
def jstextEndsUptoRow : OpenClaim := { program := "ytbcbbeenkndgcaadoor", sum := "c0ba7f97dad74d4103166f1b6f148cb3d9be8b75133cdd1927f8e1adade71d9e", func := "muslin/muslinlaw09.JstextEnds", spec := "jstextEnds", inPlace := ["internal/bytealg.IndexByteString", "internal/abi.NoEscape"], unfollowed := true, recurses := true, named := ["unicode/utf8.first", "unicode/utf8.acceptRanges"], apart := false, laid := [("unicode/utf8.acceptRanges", laid_unicode_utf8_acceptRanges), ("unicode/utf8.first", laid_unicode_utf8_first)], narrowed := true }
def JstextEndsUptoSaid : Prop := jstextEndsUptoRow.holds Tryd.pinned (OpenSpec.upto jstextEndsSpec)

/-- 'muslinlaw09.JstextBack', WHERE WHAT IT READS IS OF BULK AT MOST 1048576: true; the input reads as it did. -/
def jstextBackUptoRow : OpenClaim := { program := "ytbcbbeenkndgcaadoor", sum := "c0ba7f97dad74d4103166f1b6f148cb3d9be8b75133cdd1927f8e1adade71d9e", func := "muslin/muslinlaw09.JstextBack", spec := "jstextBack", inPlace := ["internal/abi.NoEscape", "internal/bytealg.IndexByteString"], unfollowed := true, recurses := true, named := ["unicode/utf8.first", "unicode/utf8.acceptRanges"], apart := false, laid := [("unicode/utf8.acceptRanges", laid_unicode_utf8_acceptRanges), ("unicode/utf8.first", laid_unicode_utf8_first)], narrowed := true }
def JstextBackUptoSaid : Prop := jstextBackUptoRow.holds Tryd.pinned (OpenSpec.upto jstextBackSpec)

end Rows
end Go.Proofs.YtbcbbeenkndgcaaDoor
