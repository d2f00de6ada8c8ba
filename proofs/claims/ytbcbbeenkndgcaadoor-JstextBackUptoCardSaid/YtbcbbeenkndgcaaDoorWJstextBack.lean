/-
  JstextBack: decoded, an escaped text is the repaired one; it is safe. (THE WALK: jstextBack_walk, in the text that is imported.)
-/
import Derived.Test.YtbcbbeenkndgcaaDoorWJstext
namespace Go.Proofs.YtbcbbeenkndgcaaDoor
theorem jstextBack_here : True := trivial
end Go.Proofs.YtbcbbeenkndgcaaDoor
