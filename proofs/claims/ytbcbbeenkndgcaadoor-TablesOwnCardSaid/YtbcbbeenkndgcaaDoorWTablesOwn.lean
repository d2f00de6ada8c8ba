/-
  TablesOwn: the walk.
-/
import Derived.Test.YtbcbbeenkndgcaaDoorWTables
