/-
  TablesTells: the walk.
-/
import Derived.Test.YtbcbbeenkndgcaaDoorWTables
