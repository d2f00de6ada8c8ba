/-
  No cell of these rows narrows 'for every input' (looked for: loops, veiled, ifaces, maps, wideKeys, modest, calm, conditions, laid).
  DERIVED. THE GIVEN ROWS OF THIS SEAT. 4 by the template 'for every input the law returns true; each argument reads behind the call as it read before'; 0 by the template 'total and deterministic' (their statements: YtbcbbeenkndgcaaTotals.lean).
  GIVEN WITH THE SEED: the statements are not yours to turn. If you find one false, say at which input.
  Laid BY PROGRAM, IN A SANDBOX (cutbox-rows.mjs): the forced cells as the released guide's own fill.sh prints them over the translation 0ad93f9de1ea9411… (all of the seat's roots in one cut). By AI agents, Wed Nov 11 2026. No macro, syntax, notation, axiom, sorry.
-/
import Derived.Test.YtbcbbeenkndgcaaChecked
import GoSem.Claim
import GoSem.ClaimJoined
import GoSem.ClaimMapViews
import Derived.JoinedTies
import Derived.KernelRfl
namespace Go.Proofs.Ytbcbbeenkndgcaa
/- THE CELL 'sum', in the pinned program and in every row, IS THE sha256 OF THE DUMP (.gsa) THAT YtbcbbeenkndgcaaProg.lean LOADS. Nothing in Lean hashes anything: it is a label: what it is worth is what the hold of that sum in a sandbox is worth. -/
noncomputable def Try.pinned : Pinned := { name := "ytbcbbeenkndgcaa", sum := "0ad93f9de1ea94110412bb58ddc755f552b03304d4a2550c0cef810a2e7e5172", checked := Try.checked }
namespace Rows
def none {H : Type} : Left H := { results := [], args := [] }

/-- 'muslinlaw40.UrlpartsFilters': WHATEVER THE INPUT: true; the input reads as it did. -/
def urlpartsFiltersSpec : ChangeSpec := { name := "urlpartsFilters", fn := fun _ => fun
  | [d] => { results := [.lit (.bool true)], args := [d] }
  | _ => none }
def urlpartsFiltersRow : OpenClaim := { program := "ytbcbbeenkndgcaa", sum := "0ad93f9de1ea94110412bb58ddc755f552b03304d4a2550c0cef810a2e7e5172", func := "muslin/muslinlaw40.UrlpartsFilters", spec := "urlpartsFilters", inPlace := ["internal/bytealg.IndexByteString", "internal/bytealg.IndexString"], unfollowed := true, recurses := true, named := ["internal/bytealg.MaxLen"], apart := false }
def UrlpartsFiltersSaid : Prop := urlpartsFiltersRow.holds Try.pinned (OpenSpec.ofChange urlpartsFiltersSpec)

/-- ITS FALSE NEIGHBOUR: 'it returns false'. Refute it at one input. -/
def urlpartsFiltersWrong : ChangeSpec := { name := "urlpartsFilters", fn := fun _ => fun
  | [d] => { results := [.lit (.bool false)], args := [d] }
  | _ => none }
def UrlpartsFiltersWrongFalsely : Prop := urlpartsFiltersRow.holds Try.pinned (OpenSpec.ofChange urlpartsFiltersWrong)

/-- 'muslinlaw40.UrlpartsBack': WHATEVER THE INPUT: true; the input reads as it did. -/
def urlpartsBackSpec : ChangeSpec := { name := "urlpartsBack", fn := fun _ => fun
  | [d] => { results := [.lit (.bool true)], args := [d] }
  | _ => none }
def urlpartsBackRow : OpenClaim := { program := "ytbcbbeenkndgcaa", sum := "0ad93f9de1ea94110412bb58ddc755f552b03304d4a2550c0cef810a2e7e5172", func := "muslin/muslinlaw40.UrlpartsBack", spec := "urlpartsBack", inPlace := ["internal/bytealg.IndexByteString", "internal/bytealg.IndexString", "internal/abi.NoEscape"], unfollowed := true, recurses := true, named := ["internal/bytealg.MaxLen"], apart := false }
def UrlpartsBackSaid : Prop := urlpartsBackRow.holds Try.pinned (OpenSpec.ofChange urlpartsBackSpec)

/-- ITS FALSE NEIGHBOUR: 'it returns false'. Refute it at one input. -/
def urlpartsBackWrong : ChangeSpec := { name := "urlpartsBack", fn := fun _ => fun
  | [d] => { results := [.lit (.bool false)], args := [d] }
  | _ => none }
def UrlpartsBackWrongFalsely : Prop := urlpartsBackRow.holds Try.pinned (OpenSpec.ofChange urlpartsBackWrong)

/-- 'muslinlaw40.UrlpartsTells': WHATEVER THE INPUT: true; the input reads as it did. -/
def urlpartsTellsSpec : ChangeSpec := { name := "urlpartsTells", fn := fun _ => fun
  | [d1, d2] => { results := [.lit (.bool true)], args := [d1, d2] }
  | _ => none }
def urlpartsTellsRow : OpenClaim := { program := "ytbcbbeenkndgcaa", sum := "0ad93f9de1ea94110412bb58ddc755f552b03304d4a2550c0cef810a2e7e5172", func := "muslin/muslinlaw40.UrlpartsTells", spec := "urlpartsTells", inPlace := ["internal/bytealg.IndexByteString", "internal/bytealg.IndexString", "internal/abi.NoEscape"], unfollowed := true, recurses := true, named := ["internal/bytealg.MaxLen"], apart := false }
def UrlpartsTellsSaid : Prop := urlpartsTellsRow.holds Try.pinned (OpenSpec.ofChange urlpartsTellsSpec)

/-- ITS FALSE NEIGHBOUR: 'it returns false'. Refute it at one input. -/
def urlpartsTellsWrong : ChangeSpec := { name := "urlpartsTells", fn := fun _ => fun
  | [d1, d2] => { results := [.lit (.bool false)], args := [d1, d2] }
  | _ => none }
def UrlpartsTellsWrongFalsely : Prop := urlpartsTellsRow.holds Try.pinned (OpenSpec.ofChange urlpartsTellsWrong)

/-- 'muslinlaw40.UrlpartsQuery': WHATEVER THE INPUT: true; the input reads as it did. -/
def urlpartsQuerySpec : ChangeSpec := { name := "urlpartsQuery", fn := fun _ => fun
  | [d1, d2] => { results := [.lit (.bool true)], args := [d1, d2] }
  | _ => none }
def urlpartsQueryRow : OpenClaim := { program := "ytbcbbeenkndgcaa", sum := "0ad93f9de1ea94110412bb58ddc755f552b03304d4a2550c0cef810a2e7e5172", func := "muslin/muslinlaw40.UrlpartsQuery", spec := "urlpartsQuery", inPlace := ["internal/bytealg.IndexByteString", "internal/bytealg.IndexString", "internal/abi.NoEscape"], unfollowed := true, recurses := true, named := ["internal/bytealg.MaxLen"], apart := false }
def UrlpartsQuerySaid : Prop := urlpartsQueryRow.holds Try.pinned (OpenSpec.ofChange urlpartsQuerySpec)

/-- ITS FALSE NEIGHBOUR: 'it returns false'. Refute it at one input. -/
def urlpartsQueryWrong : ChangeSpec := { name := "urlpartsQuery", fn := fun _ => fun
  | [d1, d2] => { results := [.lit (.bool false)], args := [d1, d2] }
  | _ => none }
def UrlpartsQueryWrongFalsely : Prop := urlpartsQueryRow.holds Try.pinned (OpenSpec.ofChange urlpartsQueryWrong)

/- THE SECOND FORM. 'bulk': how many values and letters a reading holds, each counted each time it is reached (what is shared counts as often as it is met; a slice's spare places count too). A statement '..UptoSaid' is the law's where the arguments, and the package variables that the reading takes, are together of bulk at most 1048576: NARROWER than '..Said'. Prove '..Said' where nothing that the law and all that it calls make is longer than what came in: it says more and counts as full. Else prove '..UptoSaid'. A law counts once. -/
mutual
def uptoBulk {H : Type} : DataW H → Nat
  | .lit (.string bytes) => bytes.length + 1
  | .lit _ => 1
  | .nil => 1
  | .ptr d => uptoBulk d + 1
  | .slice elems spare => uptoBulkAll elems + uptoBulkAll spare + 1
  | .agg parts => uptoBulkAll parts + 1
  | .iface _ d => uptoBulk d + 1
  | .map entries => uptoBulkEntries entries + 1
  | .held _ => 1
def uptoBulkAll {H : Type} : List (DataW H) → Nat
  | [] => 0
  | d :: r => uptoBulk d + uptoBulkAll r
def uptoBulkEntries {H : Type} : List (Lit × DataW H) → Nat
  | [] => 0
  | x :: r => uptoBulkEntry x + uptoBulkEntries r
def uptoBulkEntry {H : Type} : Lit × DataW H → Nat
  | (.string bytes, d) => bytes.length + uptoBulk d + 1
  | (_, d) => uptoBulk d + 1
 end
def uptoSmall : (H : Type) → List (DataW H) → Bool := fun _ ds => decide (uptoBulkAll ds ≤ 1048576)
def OpenSpec.upto (s : _root_.Go.ChangeSpec) : _root_.Go.OpenSpec := { _root_.Go.OpenSpec.ofChange s with cond := some uptoSmall }

/-- 'muslinlaw40.UrlpartsFilters', WHERE WHAT IT READS IS OF BULK AT MOST 1048576: true; the input reads as it did. -/
def urlpartsFiltersUptoRow : OpenClaim := { program := "ytbcbbeenkndgcaa", sum := "0ad93f9de1ea94110412bb58ddc755f552b03304d4a2550c0cef810a2e7e5172", func := "muslin/muslinlaw40.UrlpartsFilters", spec := "urlpartsFilters", inPlace := ["internal/bytealg.IndexByteString", "internal/bytealg.IndexString"], unfollowed := true, recurses := true, named := ["internal/bytealg.MaxLen"], apart := false, narrowed := true }
def UrlpartsFiltersUptoSaid : Prop := urlpartsFiltersUptoRow.holds Try.pinned (OpenSpec.upto urlpartsFiltersSpec)

/-- 'muslinlaw40.UrlpartsBack', WHERE WHAT IT READS IS OF BULK AT MOST 1048576: true; the input reads as it did. -/
def urlpartsBackUptoRow : OpenClaim := { program := "ytbcbbeenkndgcaa", sum := "0ad93f9de1ea94110412bb58ddc755f552b03304d4a2550c0cef810a2e7e5172", func := "muslin/muslinlaw40.UrlpartsBack", spec := "urlpartsBack", inPlace := ["internal/bytealg.IndexByteString", "internal/bytealg.IndexString", "internal/abi.NoEscape"], unfollowed := true, recurses := true, named := ["internal/bytealg.MaxLen"], apart := false, narrowed := true }
def UrlpartsBackUptoSaid : Prop := urlpartsBackUptoRow.holds Try.pinned (OpenSpec.upto urlpartsBackSpec)

/-- 'muslinlaw40.UrlpartsTells', WHERE WHAT IT READS IS OF BULK AT MOST 1048576: true; the input reads as it did. -/
def urlpartsTellsUptoRow : OpenClaim := { program := "ytbcbbeenkndgcaa", sum := "0ad93f9de1ea94110412bb58ddc755f552b03304d4a2550c0cef810a2e7e5172", func := "muslin/muslinlaw40.UrlpartsTells", spec := "urlpartsTells", inPlace := ["internal/bytealg.IndexByteString", "internal/bytealg.IndexString", "internal/abi.NoEscape"], unfollowed := true, recurses := true, named := ["internal/bytealg.MaxLen"], apart := false, narrowed := true }
def UrlpartsTellsUptoSaid : Prop := urlpartsTellsUptoRow.holds Try.pinned (OpenSpec.upto urlpartsTellsSpec)

/-- 'muslinlaw40.UrlpartsQuery', WHERE WHAT IT READS IS OF BULK AT MOST 1048576: true; the input reads as it did. -/
def urlpartsQueryUptoRow : OpenClaim := { program := "ytbcbbeenkndgcaa", sum := "0ad93f9de1ea94110412bb58ddc755f552b03304d4a2550c0cef810a2e7e5172", func := "muslin/muslinlaw40.UrlpartsQuery", spec := "urlpartsQuery", inPlace := ["internal/bytealg.IndexByteString", "internal/bytealg.IndexString", "internal/abi.NoEscape"], unfollowed := true, recurses := true, named := ["internal/bytealg.MaxLen"], apart := false, narrowed := true }
def UrlpartsQueryUptoSaid : Prop := urlpartsQueryUptoRow.holds Try.pinned (OpenSpec.upto urlpartsQuerySpec)

end Rows
end Go.Proofs.Ytbcbbeenkndgcaa
