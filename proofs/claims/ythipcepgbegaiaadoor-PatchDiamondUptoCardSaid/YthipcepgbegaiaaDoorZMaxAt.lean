/-
  In a world of the row's shape the library's MaxLen holds some number. By an AI agent.
-/
import Derived.Test.YthipcepgbegaiaaDoorZGPlain
import Derived.Test.YthipcepgbegaiaaDoorZLower
import Derived.Test.YthipcepgbegaiaaDoorShelf
import Derived.WalkSpells
import Derived.Test.YthipcepgbegaiaaDoorZView
import Derived.WalkSmall
import Derived.Test.YthipcepgbegaiaaDoorZSplitV
namespace Go.Proofs.YthipcepgbegaiaaDoor
open Go.RowKit
theorem maxAt_of_shaped {w : World} (h : w.ShapedOpen Tryd.prog) : MaxAt w := Tryd.laysM146.s1_3 w h
end Go.Proofs.YthipcepgbegaiaaDoor
