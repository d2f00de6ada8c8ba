/-
  JstextEnds: a quote, a newline, or a lone backslash at the end is refused where it stands. (THE WALK: jstextEnds_walk, in the text that is imported.)
-/
import Derived.Test.YtbcbbeenkndgcaaDoorWJstext
namespace Go.Proofs.YtbcbbeenkndgcaaDoor
theorem jstextEnds_here : True := trivial
end Go.Proofs.YtbcbbeenkndgcaaDoor
