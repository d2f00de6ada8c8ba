/-
  JstextParts: two texts, the first one valid, escaped one behind the other, are both escaped. (THE WALK: jstextParts_walk, in the text that is imported.)
-/
import Derived.Test.YtbcbbeenkndgcaaDoorWJstext
namespace Go.Proofs.YtbcbbeenkndgcaaDoor
theorem jstextParts_here : True := trivial
end Go.Proofs.YtbcbbeenkndgcaaDoor
